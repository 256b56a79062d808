/-
  J9,J10,J11,J12,J13
-/
import Derived.Test.YtegmmhldpmmkeaaGreatDoorSmJA
set_option linter.unusedVariables false
set_option linter.unusedSimpArgs false
set_option maxRecDepth 10000
set_option maxHeartbeats 2000000
namespace Sm
open Go
def rdV (r : Rd) : HV := .ag [.sl .no 1 (r.b.map U), I r.e]
attribute [local irreducible] csem rsem dsem seqK blockK normK finK DK RK JK BR G3 resK Spec Tok Fr CV
end Sm
namespace Sm
open Go
abbrev W32 (c : Nat) : HV := .v (.int .u32 (c : Int))
theorem crcN1_eq (c : Nat) : crcN1 c = (c / 2) ^^^ (if c % 2 = 1 then 3988292384 else 0) := by
 unfold crcN1
 split
 · rfl
 · rw [Nat.xor_zero]
theorem xor_div2 (x y : Nat) : (x ^^^ y) / 2 = x / 2 ^^^ y / 2 := by
 have := Nat.shiftRight_xor_distrib (a := x) (b := y) (i := 1)
 simpa [Nat.shiftRight_succ] using this
theorem xor_mod2 (x y : Nat) : (x ^^^ y) % 2 = (x % 2 + y % 2) % 2 := by
 have h : ((x ^^^ y) % 2 = 1) ↔ ¬((x % 2 = 1) ↔ (y % 2 = 1)) := Nat.xor_mod_two_eq_one
 have h1 : x % 2 = 0 ∨ x % 2 = 1 := by omega
 have h2 : y % 2 = 0 ∨ y % 2 = 1 := by omega
 have h3 : (x ^^^ y) % 2 = 0 ∨ (x ^^^ y) % 2 = 1 := by omega
 rcases h1 with h1 | h1 <;> rcases h2 with h2 | h2 <;> rcases h3 with h3 | h3 <;> rw [h1, h2, h3] at h <;> rw [h1, h2, h3] <;> first | rfl | (exfalso; revert h; decide)
theorem crcN1_xor (x y : Nat) : crcN1 (x ^^^ y) = crcN1 x ^^^ crcN1 y := by
 rw [crcN1_eq, crcN1_eq, crcN1_eq, xor_div2, xor_mod2]
 have hx : x % 2 = 0 ∨ x % 2 = 1 := by omega
 have hy : y % 2 = 0 ∨ y % 2 = 1 := by omega
 generalize 3988292384 = k
 rcases hx with hx | hx <;> rcases hy with hy | hy <;> rw [hx, hy] <;> simp only [Nat.zero_add, Nat.add_zero, Nat.zero_mod, Nat.reduceAdd, Nat.reduceMod, if_true, if_false, Nat.zero_ne_one, Nat.xor_zero, reduceIte]
 · ac_rfl
 · ac_rfl
 · rw [show x / 2 ^^^ k ^^^ (y / 2 ^^^ k) = x / 2 ^^^ y / 2 ^^^ (k ^^^ k) by ac_rfl, Nat.xor_self, Nat.xor_zero]
theorem crcN1_dbl (m : Nat) : crcN1 (2 * m) = m := by unfold crcN1; rw [if_neg (by omega)]; omega
def crc4 (c : Nat) : Nat := crcN1 (crcN1 (crcN1 (crcN1 c)))
theorem crc4_eq (c : Nat) : crc4 c = crc4 (c % 16) ^^^ c / 16 := by
 have h1 : c = (c % 16) ^^^ (2 * (2 * (2 * (2 * (c / 16))))) := by
   have h2 : (c % 16) ^^^ (2 ^ 4 * (c / 16)) = c := by
     have e1 : ((c % 16) ^^^ (2 ^ 4 * (c / 16))) / 2 ^ 4 = c / 16 := by
       rw [← Nat.shiftRight_eq_div_pow, Nat.shiftRight_xor_distrib, Nat.shiftRight_eq_div_pow, Nat.shiftRight_eq_div_pow, Nat.mul_div_cancel_left _ (by decide), show c % 16 / 2 ^ 4 = 0 by omega, Nat.zero_xor]
     have e2 : ((c % 16) ^^^ (2 ^ 4 * (c / 16))) % 2 ^ 4 = c % 16 := by
       rw [Nat.xor_mod_two_pow, Nat.mul_mod_right, Nat.xor_zero]; omega
     have := Nat.div_add_mod ((c % 16) ^^^ (2 ^ 4 * (c / 16))) (2 ^ 4)
     rw [e1, e2] at this
     omega
   have h3 : 2 * (2 * (2 * (2 * (c / 16)))) = 2 ^ 4 * (c / 16) := by omega
   rw [h3, h2]
 conv => lhs; rw [h1]
 unfold crc4
 rw [crcN1_xor, crcN1_xor, crcN1_xor, crcN1_xor, crcN1_dbl, crcN1_dbl, crcN1_dbl, crcN1_dbl]
def crcB (c : Nat) (b : UInt8) : Nat := crc4 (crc4 (c ^^^ b.toNat))
def crcR : Nat → List UInt8 → Nat
 | c, [] => c
 | c, b :: l => crcR (crcB c b) l
theorem crcR_app : ∀ (l r : List UInt8) (c : Nat), crcR c (l ++ r) = crcR (crcR c l) r
 | [], _, _ => rfl
 | b :: l, r, c => by rw [List.cons_append, crcR, crcR_app l r, crcR]
theorem crcN1_lt {c : Nat} (h : c < 4294967296) : crcN1 c < 4294967296 := by
 unfold crcN1
 split
 · exact Nat.xor_lt_two_pow (n := 32) (by omega) (by omega)
 · omega
theorem crc4_lt {c : Nat} (h : c < 4294967296) : crc4 c < 4294967296 := crcN1_lt (crcN1_lt (crcN1_lt (crcN1_lt h)))
theorem crcB_lt {c : Nat} (h : c < 4294967296) (b : UInt8) : crcB c b < 4294967296 := crc4_lt (crc4_lt (Nat.xor_lt_two_pow (n := 32) h (by have := b.toNat_lt; omega)))
theorem crcR_lt : ∀ (l : List UInt8) {c : Nat}, c < 4294967296 → crcR c l < 4294967296
 | [], _, h => h
 | b :: l, _, h => crcR_lt l (crcB_lt h b)
theorem xor32 (a b : Nat) (ha : a < 4294967296) (hb : b < 4294967296) : IntKind.u32.wrap ((BitVec.ofInt IntKind.u32.bits (a : Int) ^^^ BitVec.ofInt IntKind.u32.bits (b : Int)).toNat : Int) = ((a ^^^ b : Nat) : Int) := by
 rw [show IntKind.u32.bits = 32 from rfl, BitVec.ofInt_natCast, BitVec.ofInt_natCast, BitVec.toNat_xor, BitVec.toNat_ofNat, BitVec.toNat_ofNat, Nat.mod_eq_of_lt (by omega), Nat.mod_eq_of_lt (by omega)]
 have := Nat.xor_lt_two_pow (n := 32) ha hb
 exact IntWalk.u32_in _ ⟨by omega, by omega⟩
theorem and32_15 (a : Nat) (ha : a < 4294967296) : IntKind.u32.wrap ((BitVec.ofInt IntKind.u32.bits (a : Int) &&& BitVec.ofInt IntKind.u32.bits 15).toNat : Int) = ((a % 16 : Nat) : Int) := by
 rw [show IntKind.u32.bits = 32 from rfl, BitVec.ofInt_natCast, BitVec.toNat_and, BitVec.toNat_ofNat, Nat.mod_eq_of_lt (by omega), show (BitVec.ofInt 32 15).toNat = 2 ^ 4 - 1 by decide, Nat.and_two_pow_sub_one_eq_mod]
 exact IntWalk.u32_in _ ⟨by omega, by omega⟩
theorem shr32_4 (a : Nat) : (a : Int).fdiv (2 ^ min (Int.toNat 4) IntKind.u32.bits) = ((a / 16 : Nat) : Int) := by
 have : (2 : Int) ^ min (Int.toNat 4) IntKind.u32.bits = 16 := by decide
 rw [this, Int.fdiv_eq_ediv_of_nonneg _ (by omega)]; omega
theorem com32 (a : Nat) (ha : a < 4294967296) : IntKind.u32.wrap ((BitVec.ofInt IntKind.u32.bits (if IntKind.u32.signed = true then -1 else IntKind.u32.max) ^^^ BitVec.ofInt IntKind.u32.bits (a : Int)).toNat : Int) = ((4294967295 ^^^ a : Nat) : Int) := xor32 4294967295 a (by omega) ha
theorem crc_tab (i : Nat) (h : i < 16) : (tabOf 0)[i]? = some (W32 (crc4 i)) := by
 have : i = 0 ∨ i = 1 ∨ i = 2 ∨ i = 3 ∨ i = 4 ∨ i = 5 ∨ i = 6 ∨ i = 7 ∨ i = 8 ∨ i = 9 ∨ i = 10 ∨ i = 11 ∨ i = 12 ∨ i = 13 ∨ i = 14 ∨ i = 15 := by omega
 rcases this with rfl | rfl | rfl | rfl | rfl | rfl | rfl | rfl | rfl | rfl | rfl | rfl | rfl | rfl | rfl | rfl <;> rfl
theorem r_aidxR {S' : SpecT} {sl : List (Nat × EV)} {bx : List (Nat × List HV)} {H : Heap} {K : Env → Heap → Prop} {os : List SOper} {d l sz : Nat} {x i : Opd} {cs : List HV} {k : IntKind} {n : Nat}
   (hx : (M sl bx).opd x = some (.h (.rp cs))) (hi : (M sl bx).hv i = some (.v (.int k (n : Int)))) (hn : n < l) (hc : n * sz ≤ cs.length) (h : rsem S' os (M ((d, .h (.rp (cs.drop (n * sz)))) :: sl) bx) H K) :
   rsem S' (⟨some d, .aidx l sz x i, none⟩ :: os) (M sl bx) H K :=
 r_calm rfl (by simp only [SOp.ev, hx, hi]; rw [if_pos ⟨by omega, by omega, by simpa using hc⟩, Int.toNat_natCast]) h
theorem r_loadR1 {S' : SpecT} {sl : List (Nat × EV)} {bx : List (Nat × List HV)} {H : Heap} {K : Env → Heap → Prop} {os : List SOper} {d : Nat} {x : Opd} {cs : List HV} {v : HV}
   (hx : (M sl bx).opd x = some (.h (.rp cs))) (h0 : cs[0]? = some v) (h : rsem S' os (M ((d, .h v) :: sl) bx) H K) :
   rsem S' (⟨some d, .load false 1 x, none⟩ :: os) (M sl bx) H K := by
 cases cs with
 | nil => cases h0
 | cons a cs =>
   simp only [List.getElem?_cons_zero, Option.some.injEq] at h0; subst h0
   refine r_calm rfl ?_ h
   simp only [SOp.ev, hx]
   rfl
attribute [local irreducible] csem rsem dsem seqK blockK normK finK DK RK JK BR G3 resK Spec Tok Fr CV
theorem more_spec (L : Linked code) (tk : Tk) (c : Nat) (hc : c < 4294967296) (l : List UInt8) (hl : l.length ≤ 1048576) : PureF L 474 [W32 c, .sl tk 1 (l.map U)] (W32 (4294967295 ^^^ crcR (4294967295 ^^^ c) l)) := by
 intro H K hk
 have hc2 : 4294967295 ^^^ c < 4294967296 := Nat.xor_lt_two_pow (n := 32) (by omega) hc
 refine go_spec L code474 rfl ?_
 repeat (refine gk trivial ?_)
 rw [com32 c hc]
 refine c_loop (Spec_SMono L) (fun (q : Nat) => [(0, .h (W32 (crcR (4294967295 ^^^ c) (l.take q)))), (9, .h (.sl tk 1 (l.map U))), (10, .h (I l.length)), (11, .h (I q))]) (fun _ => []) (fun q X => X = H ∧ q ≤ l.length) (fun q => l.length - q) 0 ?_ ⟨rfl, by omega⟩ ?_
 · have e5 : crcR (4294967295 ^^^ c) (l.take 0) = 4294967295 ^^^ c := by rw [List.take_zero]; rfl
   (refine leM ?_ ?_ ?_ <;> (repeat refine leS e5 ?_) <;> exact leE)
 rintro q X ⟨rfl, hq⟩
 have hlt : crcR (4294967295 ^^^ c) (l.take q) < 4294967296 := crcR_lt _ hc2
 repeat (refine gk trivial ?_)
 (refine ct trivial ?_ ?_ <;> intro h)
 · have hq' : q < l.length := by have := of_decide_eq_true h; omega
   have hb := l[q].toNat_lt
   have hx1 : crcR (4294967295 ^^^ c) (l.take q) ^^^ l[q].toNat < 4294967296 := Nat.xor_lt_two_pow (n := 32) hlt (by omega)
   have hw : IntKind.u32.wrap (l[q].toNat : Int) = (l[q].toNat : Int) := IntWalk.u32_in _ ⟨by omega, by omega⟩
   repeat (refine gk trivial ?_)
   rw [hw, xor32 _ _ hlt (by omega), and32_15 _ hx1]
   generalize hx : crcR (4294967295 ^^^ c) (l.take q) ^^^ l[q].toNat = x at *
   have h16 : crc4 (x % 16) < 4294967296 := crc4_lt (by omega)
   have hx4 : crc4 x < 4294967296 := crc4_lt hx1
   have e1 := xor32 (crc4 (x % 16)) (x / 16) h16 (by omega)
   rw [← crc4_eq] at e1
   have h16' : crc4 (crc4 x % 16) < 4294967296 := crc4_lt (by omega)
   have e2 := xor32 (crc4 (crc4 x % 16)) (crc4 x / 16) h16' (by omega)
   rw [← crc4_eq] at e2
   apply r_aidxR; (focus rfl); (focus rfl); (focus omega); (focus (show _ ≤ 16; omega))
   repeat (refine gk trivial ?_)
   apply r_loadR1; (focus rfl); (focus (rw [List.getElem?_drop]; exact crc_tab _ (by omega)))
   repeat (refine gk trivial ?_)
   rw [shr32_4, Nat.mul_one, Nat.add_zero, e1, and32_15 _ hx4]
   apply r_aidxR; (focus rfl); (focus rfl); (focus omega); (focus (show _ ≤ 16; omega))
   repeat (refine gk trivial ?_)
   apply r_loadR1; (focus rfl); (focus (rw [List.getElem?_drop]; exact crc_tab _ (by omega)))
   repeat (refine gk trivial ?_)
   rw [shr32_4, Nat.mul_one, Nat.add_zero, e2]
   have e9 : crcR (4294967295 ^^^ c) (l.take (q + 1)) = crc4 (crc4 x) := by
     rw [List.take_succ_eq_append_getElem hq', crcR_app, ← hx]; rfl
   refine k_n (q + 1) (by omega) ⟨rfl, hq'⟩ ?_
   (refine leM ?_ ?_ ?_ <;> (repeat refine leS e9 ?_) <;> exact leE)
 · have hqe : q = l.length := by have := of_decide_eq_false h; omega
   subst hqe
   repeat (refine gk trivial ?_)
   rw [List.take_length] at hlt ⊢
   rw [com32 _ hlt]
   exact resK_some (hk _ (Fr.refl _ _))
end Sm
namespace Sm
open Go
attribute [local irreducible] csem rsem dsem seqK blockK normK finK DK RK JK BR G3 resK Spec Tok Fr CV
theorem of_spec (L : Linked code) (tk : Tk) (l : List UInt8) (hl : l.length ≤ 1048576) : PureF L 456 [.sl tk 1 (l.map U)] (W32 (4294967295 ^^^ crcR 4294967295 l)) := by
 intro H K hk
 refine go_spec L code456 rfl ?_
 repeat (refine gk trivial ?_)
 (apply r_call; (focus rfl))
 refine more_spec L tk 0 (by omega) l hl H _ fun X f => ?_
 repeat (refine gk trivial ?_)
 exact resK_some (hk X f)
end Sm
namespace Sm
open Go
def byN (c i : Nat) : UInt8 := UInt8.ofNat (c / 256 ^ i % 256)
def le4 (c : Nat) : List UInt8 := [byN c 0, byN c 1, byN c 2, byN c 3]
theorem by_val (m : Nat) : IntKind.u8.wrap ((m : Nat) : Int) = ((UInt8.ofNat (m % 256)).toNat : Int) := by rw [IntKind.wrap_u8]; simp
theorem shr32 (c k : Nat) (hk : k = 0 ∨ k = 8 ∨ k = 16 ∨ k = 24) : (c : Int).fdiv (2 ^ min (k : Int).toNat IntKind.u32.bits) = ((c / 2 ^ k : Nat) : Int) := by
 have e1 : min (k : Int).toNat IntKind.u32.bits = k := by show min (k : Int).toNat 32 = k; omega
 rw [e1, show (2 : Int) ^ k = ((2 ^ k : Nat) : Int) by rw [Int.natCast_pow]; rfl, Int.fdiv_eq_ediv_of_nonneg _ (Int.natCast_nonneg _), Int.natCast_ediv]
attribute [local irreducible] csem rsem dsem seqK blockK normK finK DK RK JK BR G3 resK Spec Tok Fr CV
theorem bytes_spec (L : Linked code) (c : Nat) (hc : c < 4294967296) : PureF L 457 [W32 c] (.sl .full 1 ((le4 c).map U)) := by
 intro H K hk
 refine Spec.give ?_
 refine go_spec L code457 rfl ?_
 repeat (refine gk trivial ?_)
 refine r_mks rfl ⟨by omega, by omega, by omega⟩ rfl fun b X hb hX fX => ?_
 rw [repl1] at hX
 have hX0 : X b = some (.obj (((le4 c).take 0).map U ++ List.replicate (4 - 0) (U 0))) := hX
 repeat (refine gk trivial ?_)
 refine c_loop (Spec_SMono L) (fun (q : Nat) => [(0, .h (W32 c)), (3, .h (.v (.slice (some ⟨b, 0, none⟩) 4 4))), (7, .h (I 4)), (8, .h (I q))]) (fun _ => []) (fun q Y => Y b = some (.obj (((le4 c).take q).map U ++ List.replicate (4 - q) (U 0))) ∧ Fr [] H Y ∧ q ≤ 4) (fun q => 4 - q) 0 ?_ ⟨hX0, fX, by omega⟩ ?_
 · (refine leM ?_ ?_ ?_ <;> (repeat refine leS trivial ?_) <;> exact leE)
 rintro q Y ⟨hY, fY, hq⟩
 obtain rfl | rfl | rfl | rfl | rfl : q = 0 ∨ q = 1 ∨ q = 2 ∨ q = 3 ∨ q = 4 := by omega
 · have e1 : IntKind.u8.wrap ((c : Int).fdiv (2 ^ min (8 * ((0 : Nat) : Int)).toNat IntKind.u32.bits)) = ((byN c 0).toNat : Int) := by have := shr32 c 0 (by omega); rw [show (8 * ((0 : Nat) : Int)).toNat = ((0 : Nat) : Int).toNat from rfl, this, by_val]; simp [byN]
   have hY2 : Y b = some (.obj ([] ++ U 0 :: List.replicate 3 (U 0))) := hY
   repeat (refine gk trivial ?_)
   rw [e1]
   apply r_storeO; (focus rfl); (focus rfl); (focus rfl); (focus rfl); (focus exact hY2); (focus (simp))
   intro Z hZ fZ
   rw [show (0 + ((0 : Nat) : Int).toNat * 1) = 0 from rfl] at hZ
   simp only [HV.cells] at hZ
   rw [setL_one (by simp)] at hZ
   repeat (refine gk trivial ?_)
   refine k_n 1 (by omega) ⟨hZ, fY.own hb fZ, by omega⟩ ?_
   (refine leM ?_ ?_ ?_ <;> (repeat refine leS trivial ?_) <;> exact leE)
 · have e1 : IntKind.u8.wrap ((c : Int).fdiv (2 ^ min (8 * ((1 : Nat) : Int)).toNat IntKind.u32.bits)) = ((byN c 1).toNat : Int) := by have := shr32 c 8 (by omega); rw [show (8 * ((1 : Nat) : Int)).toNat = ((8 : Nat) : Int).toNat from rfl, this, by_val]; rfl
   have hY2 : Y b = some (.obj ([U (byN c 0)] ++ U 0 :: List.replicate 2 (U 0))) := hY
   repeat (refine gk trivial ?_)
   rw [e1]
   apply r_storeO; (focus rfl); (focus rfl); (focus rfl); (focus rfl); (focus exact hY2); (focus (simp))
   intro Z hZ fZ
   rw [show (0 + ((1 : Nat) : Int).toNat * 1) = 1 from rfl] at hZ
   simp only [HV.cells] at hZ
   rw [setL_one (by simp)] at hZ
   repeat (refine gk trivial ?_)
   refine k_n 2 (by omega) ⟨hZ, fY.own hb fZ, by omega⟩ ?_
   (refine leM ?_ ?_ ?_ <;> (repeat refine leS trivial ?_) <;> exact leE)
 · have e1 : IntKind.u8.wrap ((c : Int).fdiv (2 ^ min (8 * ((2 : Nat) : Int)).toNat IntKind.u32.bits)) = ((byN c 2).toNat : Int) := by have := shr32 c 16 (by omega); rw [show (8 * ((2 : Nat) : Int)).toNat = ((16 : Nat) : Int).toNat from rfl, this, by_val]; rfl
   have hY2 : Y b = some (.obj ([U (byN c 0), U (byN c 1)] ++ U 0 :: List.replicate 1 (U 0))) := hY
   repeat (refine gk trivial ?_)
   rw [e1]
   apply r_storeO; (focus rfl); (focus rfl); (focus rfl); (focus rfl); (focus exact hY2); (focus (simp))
   intro Z hZ fZ
   rw [show (0 + ((2 : Nat) : Int).toNat * 1) = 2 from rfl] at hZ
   simp only [HV.cells] at hZ
   rw [setL_one (by simp)] at hZ
   repeat (refine gk trivial ?_)
   refine k_n 3 (by omega) ⟨hZ, fY.own hb fZ, by omega⟩ ?_
   (refine leM ?_ ?_ ?_ <;> (repeat refine leS trivial ?_) <;> exact leE)
 · have e1 : IntKind.u8.wrap ((c : Int).fdiv (2 ^ min (8 * ((3 : Nat) : Int)).toNat IntKind.u32.bits)) = ((byN c 3).toNat : Int) := by have := shr32 c 24 (by omega); rw [show (8 * ((3 : Nat) : Int)).toNat = ((24 : Nat) : Int).toNat from rfl, this, by_val]; rfl
   have hY2 : Y b = some (.obj ([U (byN c 0), U (byN c 1), U (byN c 2)] ++ U 0 :: List.replicate 0 (U 0))) := hY
   repeat (refine gk trivial ?_)
   rw [e1]
   apply r_storeO; (focus rfl); (focus rfl); (focus rfl); (focus rfl); (focus exact hY2); (focus (simp))
   intro Z hZ fZ
   rw [show (0 + ((3 : Nat) : Int).toNat * 1) = 3 from rfl] at hZ
   simp only [HV.cells] at hZ
   rw [setL_one (by simp)] at hZ
   repeat (refine gk trivial ?_)
   refine k_n 4 (by omega) ⟨hZ, fY.own hb fZ, by omega⟩ ?_
   (refine leM ?_ ?_ ?_ <;> (repeat refine leS trivial ?_) <;> exact leE)
 · have hY2 : Y b = some (.obj ((le4 c).map U)) := by rw [hY]; rfl
   repeat (refine gk trivial ?_)
   refine resK_some (.inr (.inr ⟨b, _, .sl .full 1 ((le4 c).map U), hY2, FW.bytes (l := le4 c) (show 4 ≤ maxLen by decide), hk _ (fY.give hb)⟩))
end Sm
