/-
  A layer of one's own: texts T29,T30,T31,T32.
-/
import Derived.Test.YtmdfajhlofhmcaaDoorSmTF
import Derived.Test.YtmdfajhlofhmcaaDoorSmLI
set_option linter.unusedVariables false
set_option linter.unusedSimpArgs false
set_option maxRecDepth 10000
set_option maxHeartbeats 1000000
namespace Sm
open Go
-- BASE entU
end Sm

set_option linter.unusedVariables false
set_option linter.unusedSimpArgs false
set_option maxRecDepth 10000
set_option maxHeartbeats 1000000
namespace Sm
open Go
-- BASE entU
theorem splA_join : ∀ l : List UInt8, (splA l).1 ++ (splA l).2.flatMap (fun s => 47 :: s) = l
  | [] => rfl
  | b :: l => by
    have ih := splA_join l
    by_cases hb : (b == 47) = true
    · simp only [splA, hb, if_true, List.flatMap_cons, List.nil_append, List.cons_append, ih]
      rw [show b = 47 by simpa using hb]
    · simp only [splA, if_neg hb, List.cons_append, ih]
theorem segs_inj {a b : List UInt8} (h : segs a = segs b) : a = b := by
  simp only [segs, List.cons.injEq] at h
  rw [← splA_join a, ← splA_join b, h.1, h.2]
theorem spl_inj {a b : List UInt8} (h : spl a = spl b) : a = b := by
  unfold spl at h
  split at h
  · split at h
    · simp_all
    · simp [segs] at h
  · split at h
    · simp [segs] at h
    · exact segs_inj h
theorem bl_tot : ∀ {a b : List UInt8}, Op.bytesLess a b = false → a ≠ b → Op.bytesLess b a = true
  | [], [], _, h => absurd rfl h
  | [], _ :: _, h, _ => by simp [Op.bytesLess] at h
  | _ :: _, [], _, _ => by simp [Op.bytesLess]
  | x :: a, y :: b, h1, h2 => by
    have ih := @bl_tot a b
    simp only [Op.bytesLess, Bool.or_eq_false_iff, decide_eq_false_iff_not, Bool.and_eq_false_iff, beq_eq_false_iff_ne, UInt8.lt_iff_toNat_lt] at h1
    simp only [Op.bytesLess, Bool.or_eq_true, decide_eq_true_eq, Bool.and_eq_true, beq_iff_eq, UInt8.lt_iff_toNat_lt]
    by_cases e : x = y
    · subst e
      refine .inr ⟨rfl, ih ?_ fun e2 => h2 (by rw [e2])⟩
      rcases h1.2 with h3 | h3
      · exact absurd rfl h3
      · exact h3
    · left
      have : x.toNat ≠ y.toNat := fun e2 => e (UInt8.toNat_inj.mp e2)
      omega
theorem cmpL_tot : ∀ {x y : List (List UInt8)}, ¬ cmpL x y < 0 → x ≠ y → cmpL y x < 0
  | [], [], _, h => absurd rfl h
  | [], _ :: _, h, _ => by rw [cmpL] at h; omega
  | _ :: _, [], _, _ => by rw [cmpL]; decide
  | a :: x, b :: y, h1, h2 => by
    have ih := @cmpL_tot x y
    rw [cmpL] at h1 ⊢
    by_cases e : a = b
    · subst e
      rw [if_pos (cmpS_eq.mpr rfl)] at h1 ⊢
      exact ih h1 fun e2 => h2 (by rw [e2])
    · have e1 : cmpS a b ≠ 0 := fun h => e (cmpS_eq.mp h)
      have e2 : cmpS b a ≠ 0 := fun h => e (cmpS_eq.mp h).symm
      rw [if_neg e1] at h1
      rw [if_neg e2, cmpS_lt2]
      refine bl_tot ?_ e
      cases hb : Op.bytesLess a b
      · rfl
      · exact absurd (cmpS_lt2.mpr hb) h1
/-- Of two paths that differ one is less. -/
theorem lessP_tot {a b : List UInt8} (h : lessP a b = false) (hn : a ≠ b) : lessP b a = true := by
  simp only [lessP, decide_eq_true_eq, decide_eq_false_iff_not] at *
  exact cmpL_tot h fun e => hn (spl_inj e)
end Sm

set_option linter.unusedVariables false
set_option linter.unusedSimpArgs false
set_option maxRecDepth 10000
set_option maxHeartbeats 1000000
namespace Sm
open Go
-- BASE entU
end Sm

set_option linter.unusedVariables false
set_option linter.unusedSimpArgs false
set_option maxRecDepth 10000
set_option maxHeartbeats 1000000
namespace Sm
open Go
-- BASE entU
/-- An entry, and how its bytes are held. -/
structure Eo where
  e : Ent
  v : HV
  deriving Inhabited
def cO (x : Eo) : List HV := [S x.e.path, B x.e.dir, x.v]
def cellsO (l : List Eo) : List HV := l.flatMap cO
/-- As all entries of a list whose bytes nobody writes any more. -/
def fro (e : Ent) : Eo := ⟨e, .sl .no 1 (e.data.map U)⟩
/-- Bytes of one's own, that may be written; in another block than 'o', and in none that was there ahead ('G'). -/
def DW (G H : Heap) (o : Nat) (v : HV) (d : List UInt8) : Prop :=
  (v = .v (.slice none 0 0) ∧ d = []) ∨ (v = .sl .full 1 [] ∧ d = []) ∨
  ∃ b c zs, v = .v (.slice (some ⟨b, 0, none⟩) d.length c) ∧ b ≠ o ∧ H b = some (.obj (d.map U ++ zs)) ∧ d.length ≤ c ∧ c ≤ maxLen ∧ G b = none
theorem DW.one {G H o v d} (h : DW G H o v d) : v.one = true := by
  rcases h with ⟨rfl, _⟩ | ⟨rfl, _⟩ | ⟨b, c, zs, rfl, _⟩ <;> rfl
theorem cO_one {x : Eo} (h : x.v.one = true) : (cO x).all HV.one = true := by
  show (HV.one _ && (HV.one _ && (HV.one x.v && true))) = true
  rw [h]; rfl
theorem cO_el {x : Eo} (h : x.v.one = true) : (HV.ag (cO x)).el = true := cO_one h
theorem DW.fr {bs G H H' o v d} (h : DW G H o v d) (hf : Fr bs H H') (hb : bs ⊆ [o]) : DW G H' o v d := by
  rcases h with h | h | ⟨b, c, zs, h1, h2, h3, h4⟩
  · exact .inl h
  · exact .inr (.inl h)
  · exact .inr (.inr ⟨b, c, zs, h1, h2, hf.get (fun h => h2 (by simpa using hb h)) h3, h4⟩)
theorem DW.to {G H o o' v d} (h : DW G H o v d) (hb : o' = o ∨ H o' = none) : DW G H o' v d := by
  rcases h with h | h | ⟨b, c, zs, h1, h2, h3, h4⟩
  · exact .inl h
  · exact .inr (.inl h)
  · refine .inr (.inr ⟨b, c, zs, h1, ?_, h3, h4⟩)
    rcases hb with rfl | hb
    · exact h2
    · rintro rfl; rw [h3] at hb; cases hb
theorem DW.base {G0 G H o v d} (h : DW G H o v d) (hf : Fr [] G0 G) : DW G0 H o v d := by
  rcases h with h | h | ⟨b, c, zs, h1, h2, h3, h4, h5, h6⟩
  · exact .inl h
  · exact .inr (.inl h)
  · exact .inr (.inr ⟨b, c, zs, h1, h2, h3, h4, h5, hf.none h6⟩)
/-- Entries, told by their cells, that are an object of one's own. -/
structure OO (H : Heap) (b n c : Nat) (l : List Eo) : Prop where
  ob : ∃ zs, H b = some (.obj (cellsO l ++ zs)) ∧ zs.length = (c - n) * 3 ∧ zs.all HV.one = true
  len : l.length = n
  nc : n ≤ c
  cm : c ≤ maxLen
attribute [local irreducible] csem rsem dsem seqK blockK normK finK DK RK JK BR G3 resK Spec Tok Fr

end Sm
