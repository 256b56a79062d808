/-
  A layer of one's own: texts D33.
-/
import Derived.Test.YtmdfajhlofhmcaaDoorSmDJ
import Derived.Test.YtmdfajhlofhmcaaDoorSmTE
import Derived.Test.YtmdfajhlofhmcaaDoorSmLI
set_option linter.unusedVariables false
set_option linter.unusedSimpArgs false
set_option maxRecDepth 10000
set_option maxHeartbeats 2000000
namespace Sm
open Go
-- BASE smU
theorem smU : (∀ d : Dk, rkV d = .ag [I d.room, .sl .no 3 (d.sure.map rnV), .sl .no 2 (d.loose.map rcV), .sl .no 2 (d.f.map rfV), B d.down, I d.ops, I d.fails, B d.done, I d.wrong]) ∧ (∀ a : Ak, akV a = .ag [U a.kind, S a.p, S a.q, .sl .no 1 (a.b.map U), I a.n, B a.done]) ∧ (∀ e : Ent, encE e = .ag [S e.path, B e.dir, .sl .no 1 (e.data.map U)]) ∧ (∀ x : Eo, encO x = .ag [S x.e.path, B x.e.dir, x.v]) := ⟨fun _ => rfl, fun _ => rfl, fun _ => rfl, fun _ => rfl⟩
theorem r_b2sB {S' : SpecT} {sl : List (Nat × EV)} {bx : List (Nat × List HV)} {H : Heap} {K : Env → Heap → Prop} {os : List SOper} {d : Nat} {x : Opd} {v : HV} {l : List UInt8} (hx : (M sl bx).hv x = some v) (hv : BV H v l) (h : rsem S' os (M ((d, .h (S l)) :: sl) bx) H K) : rsem S' (⟨some d, .nd .b2s [x], none⟩ :: os) (M sl bx) H K := by
  rcases hv with ⟨tk, rfl⟩ | ⟨rfl, rfl⟩ | ⟨a, c, zs, rfl, ha⟩
  · exact r_b2s hx h
  · exact r_b2s0 hx h
  · refine r_nd1 (hs := [.v (.slice (some ⟨a, 0, none⟩) l.length c)]) (by simp [Env.hvs, hx]) (fun R hR => ?_) h
    simp only [ndK, ha]
    refine ⟨by simp, ⟨l.toArray⟩, ?_, hR⟩
    rw [List.drop_zero, List.take_append_of_le_length (by simp), List.take_of_length_le (by simp)]
    simp [bytesHV, byteHV]
/-- Bytes that may be read and written. -/
def YB (X : Heap) (v : HV) : Prop := v = .v (.slice none 0 0) ∨ v = .sl .full 1 [] ∨ ∃ a n c cs, v = .v (.slice (some ⟨a, 0, none⟩) n c) ∧ X a = some (.obj cs) ∧ n ≤ cs.length ∧ n ≤ maxLen ∧ ∀ k, k < n → ∃ y, cs[k]? = some (U y)
theorem YB.set {X Y : Heap} {v : HV} {a i : Nat} {cs : List HV} {y : UInt8} (h : YB X v) (ha : X a = some (.obj cs)) (hy : Y a = some (.obj (cs.set i (U y)))) (hf : Fr [a] X Y) : YB Y v := by
  rcases h with h | h | ⟨b, n, c, ds, rfl, h1, h2, h3, h4⟩
  · exact .inl h
  · exact .inr (.inl h)
  · by_cases hab : b = a
    · subst hab
      rw [ha] at h1; cases h1
      refine .inr (.inr ⟨b, n, c, _, rfl, hy, by simpa using h2, h3, fun k hk => ?_⟩)
      rw [List.getElem?_set]
      split
      · exact ⟨y, by rw [if_pos (by omega)]⟩
      · exact h4 k hk
    · exact .inr (.inr ⟨b, n, c, ds, rfl, hf.get (by simpa using hab) h1, h2, h3, h4⟩)
/-- How many. -/
def ybN : HV → Nat
  | .v (.slice _ n _) => n
  | _ => 0
attribute [local irreducible] csem rsem dsem seqK blockK normK finK DK RK JK BR G3 resK Spec Tok Fr CV GA YB

end Sm
