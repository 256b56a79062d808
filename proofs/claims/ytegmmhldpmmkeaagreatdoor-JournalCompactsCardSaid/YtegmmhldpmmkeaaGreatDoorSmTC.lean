/-
  T23,T25,T26,T27,T29,T30,T31,T32
-/
import Derived.Test.YtegmmhldpmmkeaaGreatDoorSmTB
import Derived.Test.YtegmmhldpmmkeaaGreatDoorSmLI
set_option linter.unusedVariables false
set_option linter.unusedSimpArgs false
set_option maxRecDepth 10000
set_option maxHeartbeats 1000000
namespace Sm
open Go
theorem bl_trans : ∀ {a b c : List UInt8}, Op.bytesLess a b = true → Op.bytesLess b c = true → Op.bytesLess a c = true
 | [], [], _, h, _ => by simp [Op.bytesLess] at h
 | [], _ :: _, [], _, h => by simp [Op.bytesLess] at h
 | [], _ :: _, _ :: _, _, _ => by simp [Op.bytesLess]
 | _ :: _, [], _, h, _ => by simp [Op.bytesLess] at h
 | _ :: _, _ :: _, [], _, h => by simp [Op.bytesLess] at h
 | x :: a, y :: b, z :: c, h1, h2 => by
   have ih := @bl_trans a b c
   simp only [Op.bytesLess] at h1 h2 ⊢
   simp only [Bool.or_eq_true, decide_eq_true_eq, Bool.and_eq_true, beq_iff_eq, UInt8.lt_iff_toNat_lt] at h1 h2 ⊢
   rcases h1 with h1 | ⟨rfl, h1⟩
   · rcases h2 with h2 | ⟨rfl, h2⟩
     · exact .inl (by omega)
     · exact .inl h1
   · rcases h2 with h2 | ⟨rfl, h2⟩
     · exact .inl h2
     · exact .inr ⟨rfl, ih h1 h2⟩
theorem cmpS_lt2 {a b : List UInt8} : cmpS a b < 0 ↔ Op.bytesLess a b = true := by
 unfold cmpS
 cases h : Op.bytesLess a b
 · simp only [Bool.false_eq_true, if_false, iff_false]
   split <;> omega
 · simp
theorem cmpL_refl : ∀ x : List (List UInt8), cmpL x x = 0
 | [] => rfl
 | a :: x => by rw [cmpL, if_pos (cmpS_eq.mpr rfl), cmpL_refl x]
theorem cmpL_trans : ∀ {x y z : List (List UInt8)}, cmpL x y < 0 → cmpL y z < 0 → cmpL x z < 0
 | [], [], _, h, _ => by rw [cmpL] at h; omega
 | [], _ :: _, [], _, h => by rw [cmpL] at h; omega
 | [], _ :: _, _ :: _, _, _ => by rw [cmpL]; decide
 | _ :: _, [], _, h, _ => by rw [cmpL] at h; omega
 | _ :: _, _ :: _, [], _, h => by rw [cmpL] at h; omega
 | a :: x, b :: y, c :: z, h1, h2 => by
   have ih := @cmpL_trans x y z
   rw [cmpL] at h1 h2 ⊢
   by_cases e1 : cmpS a b = 0
   · rw [if_pos e1] at h1
     have e1' := cmpS_eq.mp e1
     subst e1'
     by_cases e2 : cmpS a c = 0
     · rw [if_pos e2] at h2 ⊢; exact ih h1 h2
     · rw [if_neg e2] at h2 ⊢; exact h2
   · rw [if_neg e1] at h1
     by_cases e2 : cmpS b c = 0
     · rw [if_pos e2] at h2
       have e2' := cmpS_eq.mp e2
       subst e2'
       rw [if_neg e1]; exact h1
     · rw [if_neg e2] at h2
       have h3 := cmpS_lt2.mpr (bl_trans (cmpS_lt2.mp h1) (cmpS_lt2.mp h2))
       rw [if_neg (by omega)]; exact h3
theorem lessP_irr (a : List UInt8) : lessP a a = false := by simp [lessP, cmpL_refl]
theorem lessP_trans {a b c : List UInt8} (h1 : lessP a b = true) (h2 : lessP b c = true) : lessP a c = true := by
 simp only [lessP, decide_eq_true_eq] at *
 exact cmpL_trans h1 h2
theorem splA_join : ∀ l : List UInt8, (splA l).1 ++ (splA l).2.flatMap (fun s => 47 :: s) = l
 | [] => rfl
 | b :: l => by
   have ih := splA_join l
   by_cases hb : (b == 47) = true
   · simp only [splA, hb, if_true, List.flatMap_cons, List.nil_append, List.cons_append, ih]
     rw [show b = 47 by simpa using hb]
   · simp only [splA, if_neg hb, List.cons_append, ih]
theorem segs_inj {a b : List UInt8} (h : segs a = segs b) : a = b := by
 simp only [segs, List.cons.injEq] at h
 rw [← splA_join a, ← splA_join b, h.1, h.2]
theorem spl_inj {a b : List UInt8} (h : spl a = spl b) : a = b := by
 unfold spl at h
 split at h
 · split at h
   · simp_all
   · simp [segs] at h
 · split at h
   · simp [segs] at h
   · exact segs_inj h
theorem bl_tot : ∀ {a b : List UInt8}, Op.bytesLess a b = false → a ≠ b → Op.bytesLess b a = true
 | [], [], _, h => absurd rfl h
 | [], _ :: _, h, _ => by simp [Op.bytesLess] at h
 | _ :: _, [], _, _ => by simp [Op.bytesLess]
 | x :: a, y :: b, h1, h2 => by
   have ih := @bl_tot a b
   simp only [Op.bytesLess, Bool.or_eq_false_iff, decide_eq_false_iff_not, Bool.and_eq_false_iff, beq_eq_false_iff_ne, UInt8.lt_iff_toNat_lt] at h1
   simp only [Op.bytesLess, Bool.or_eq_true, decide_eq_true_eq, Bool.and_eq_true, beq_iff_eq, UInt8.lt_iff_toNat_lt]
   by_cases e : x = y
   · subst e
     refine .inr ⟨rfl, ih ?_ fun e2 => h2 (by rw [e2])⟩
     rcases h1.2 with h3 | h3
     · exact absurd rfl h3
     · exact h3
   · left
     have : x.toNat ≠ y.toNat := fun e2 => e (UInt8.toNat_inj.mp e2)
     omega
theorem cmpL_tot : ∀ {x y : List (List UInt8)}, ¬ cmpL x y < 0 → x ≠ y → cmpL y x < 0
 | [], [], _, h => absurd rfl h
 | [], _ :: _, h, _ => by rw [cmpL] at h; omega
 | _ :: _, [], _, _ => by rw [cmpL]; decide
 | a :: x, b :: y, h1, h2 => by
   have ih := @cmpL_tot x y
   rw [cmpL] at h1 ⊢
   by_cases e : a = b
   · subst e
     rw [if_pos (cmpS_eq.mpr rfl)] at h1 ⊢
     exact ih h1 fun e2 => h2 (by rw [e2])
   · have e1 : cmpS a b ≠ 0 := fun h => e (cmpS_eq.mp h)
     have e2 : cmpS b a ≠ 0 := fun h => e (cmpS_eq.mp h).symm
     rw [if_neg e1] at h1
     rw [if_neg e2, cmpS_lt2]
     refine bl_tot ?_ e
     cases hb : Op.bytesLess a b
     · rfl
     · exact absurd (cmpS_lt2.mpr hb) h1
theorem lessP_tot {a b : List UInt8} (h : lessP a b = false) (hn : a ≠ b) : lessP b a = true := by
 simp only [lessP, decide_eq_true_eq, decide_eq_false_iff_not] at *
 exact cmpL_tot h fun e => hn (spl_inj e)
structure Eo where
 e : Ent
 v : HV
 deriving Inhabited
def cO (x : Eo) : List HV := [S x.e.path, B x.e.dir, x.v]
def cellsO (l : List Eo) : List HV := l.flatMap cO
def DW (G H : Heap) (o : Nat) (v : HV) (d : List UInt8) : Prop :=
 (v = .v (.slice none 0 0) ∧ d = []) ∨ (v = .sl .full 1 [] ∧ d = []) ∨
 ∃ b c zs, v = .v (.slice (some ⟨b, 0, none⟩) d.length c) ∧ b ≠ o ∧ H b = some (.obj (d.map U ++ zs)) ∧ d.length ≤ c ∧ c ≤ maxLen ∧ G b = none
theorem cO_one {x : Eo} (h : x.v.one = true) : (cO x).all HV.one = true := by
 show (HV.one _ && (HV.one _ && (HV.one x.v && true))) = true
 rw [h]; rfl
theorem cO_el {x : Eo} (h : x.v.one = true) : (HV.ag (cO x)).el = true := cO_one h
structure OO (H : Heap) (b n c : Nat) (l : List Eo) : Prop where
 ob : ∃ zs, H b = some (.obj (cellsO l ++ zs)) ∧ zs.length = (c - n) * 3 ∧ zs.all HV.one = true
 len : l.length = n
 nc : n ≤ c
 cm : c ≤ maxLen
attribute [local irreducible] csem rsem dsem seqK blockK normK finK DK RK JK BR G3 resK Spec Tok Fr
end Sm
