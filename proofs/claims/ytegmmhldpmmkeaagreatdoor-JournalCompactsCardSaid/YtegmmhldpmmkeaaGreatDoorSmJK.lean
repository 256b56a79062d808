/-
  J33
-/
import Derived.Test.YtegmmhldpmmkeaaGreatDoorSmJJ
set_option linter.unusedVariables false
set_option linter.unusedSimpArgs false
set_option maxRecDepth 10000
set_option maxHeartbeats 4000000
namespace Sm
open Go
theorem sumB_refl (a : List UInt8) : sumB a a = true := by simp [sumB]
theorem ptB_refl (a : Pt) : ptB a a = true := by simp [ptB, sumB_refl]
theorem ptsB_refl : ∀ l : List Pt, ptsB l l = true
 | [] => rfl
 | x :: l => by rw [ptsB, ptB_refl, ptsB_refl l]; rfl
theorem sameS_refl (s : Sta) : sameS s s = true := by simp [sameS, ptsB_refl]
theorem Quiet.mono {R : Int} {d : Dk} {s : Sta} {b : List UInt8} {i n m n' m' : Nat} (h : Quiet R d s b i n m) (h1 : n ≤ n') (h2 : m ≤ m') : Quiet R d s b i n' m' := ⟨h.wf.mono h1 h2, h.dn, h.sure, h.loose, h.file, h.room, h.good⟩
def okAc (a : Ac) : Prop := a.r.sum.length = 32
structure QJ (H X : Heap) (b a : Nat) (now : Sta) (n m : Nat) : Prop where
 ex : ∃ (h : Hd) (d : Dk) (c : List UInt8) (i : Nat), JS H X b a h d ⟨now, (c.length : Int), false⟩ ∧ Quiet 1048576 d now c i n m ∧ d.wrong = -1
structure DJ (H X : Heap) (b a : Nat) (now nx : Sta) (n m : Nat) : Prop where
 ex : ∃ (h : Hd) (d : Dk) (j : Jn), JS H X b a h d j ∧ d.WF n m ∧ ((d.down = false ∧ ∃ (c : List UInt8) (i : Nat), j = ⟨now, (c.length : Int), false⟩ ∧ Quiet 1048576 d now c i n m ∧ d.wrong = -1) ∨ (d.down = true ∧ Cr 1048576 m d fun t => t = now ∨ t = nx))
 o1 : StOk now
 o2 : StOk nx
theorem few_len {l : List Ac} {most : Nat} (h : fewJ l most = true) : l.length ≤ most := by
 unfold fewJ at h
 simp only [Bool.and_eq_true, Bool.not_eq_true', decide_eq_false_iff_not] at h
 omega
theorem few_all {l : List Ac} {most : Int} (h : fewJ l most = true) : ∀ a ∈ l, a.r.path.length ≤ 300 ∧ a.d.b.length ≤ 300 ∧ a.d.p.length ≤ 300 ∧ a.d.q.length ≤ 300 ∧ a.r.id ≤ 2199023255552 := by
 unfold fewJ at h
 simp only [Bool.and_eq_true] at h
 intro a ha
 have := List.all_eq_true.mp h.2 a ha
 rw [smallJ_eq] at this
 simp only [Bool.and_eq_true, Bool.not_eq_true', decide_eq_false_iff_not] at this
 omega
theorem tmod8 (a : Int) : IntKind.i64.wrap (a.tmod 8) ≤ 9223372036854775807 := by
 have h1 := Int.tmod_lt_of_pos a (show (0 : Int) < 8 by omega)
 have h2 : -8 < a.tmod 8 := by
   have := Int.tmod_lt_of_pos (-a) (show (0 : Int) < 8 by omega)
   rw [Int.neg_tmod] at this; omega
 rw [wrap_in (by omega) (by omega)]
 omega
attribute [local irreducible] csem rsem dsem fsem FD DR DF finS seqK blockK normK finK DK RK JK BR G3 resK Spec Tok Fr CV
end Sm
