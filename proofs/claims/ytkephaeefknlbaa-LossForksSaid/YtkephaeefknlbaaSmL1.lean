/-
  A layer of one's own: text L1.
-/
import Derived.Test.YtkephaeefknlbaaSmY2
import Derived.Test.YtkephaeefknlbaaSmSf
set_option linter.unusedVariables false
set_option linter.unusedSimpArgs false
set_option maxRecDepth 10000
set_option maxHeartbeats 1000000
namespace Sm
open Go
attribute [local irreducible] csem rsem dsem seqK blockK normK finK DK RK BR G3 resK Spec Tok Fr

structure Pk where
  num : Int
  at' : Int
  size : Int
  asks : Bool
  deriving DecidableEq, Inhabited
def enc (p : Pk) : HV := .ag [I p.num, I p.at', I p.size, B p.asks]
structure Sp where
  lo : Int
  hi : Int
  deriving DecidableEq, Inhabited
def encS (s : Sp) : HV := .ag [I s.lo, I s.hi]
structure Led where
  opn : List Pk
  last : Pk
  som : Bool
  big : Int
def Led.cells (l : Led) (tk : Tk) : List HV := [.sl tk 4 (l.opn.map enc), I l.last.num, I l.last.at', I l.last.size, B l.last.asks, B l.som, I l.big]
-- BASE lossU
theorem lossU : (∀ p, enc p = .ag [I p.num, I p.at', I p.size, B p.asks]) ∧ (∀ s, encS s = .ag [I s.lo, I s.hi]) ∧ (∀ (l : Led) (tk : Tk), l.cells tk = [.sl tk 4 (l.opn.map enc), I l.last.num, I l.last.at', I l.last.size, B l.last.asks, B l.som, I l.big]) := ⟨fun _ => rfl, fun _ => rfl, fun _ _ => rfl⟩
def LedAt (H : Heap) (b : Nat) (l : Led) (tk : Tk) : Prop := H b = some (.obj (l.cells tk)) ∧ Tok H tk l.opn.length 4

/-- A function that only answers. -/
def Pure (L : Linked code) (g : Nat) (args : List HV) (r : HV) : Prop := ∀ H K, K r H → Spec L.P L.ν g args H K


def mayB (n : Int) : Bool := decide (0 ≤ n) && decide (n ≤ 1099511627776)

theorem may_spec (L : Linked code) (n : Int) : Pure L 120 [I n] (B (mayB n)) := by
  intro H K hk
  refine go_spec L code120 rfl ?_
  repeat (refine gk lossU ?_)
  (refine gt lossU ?_ ?_ <;> intro h)
  all_goals repeat (refine gk lossU ?_)
  all_goals exact resK_some (by simpa [mayB, h, tupled] using hk)
theorem time_spec (L : Linked code) (n : Int) : Pure L 136 [I n] (B (mayB n)) := by
  intro H K hk
  refine go_spec L code136 rfl ?_
  repeat (refine gk lossU ?_)
  (refine gt lossU ?_ ?_ <;> intro h)
  all_goals repeat (refine gk lossU ?_)
  all_goals exact resK_some (by simpa [mayB, h, tupled] using hk)
def mayS (s : Sp) : Bool := decide (0 ≤ s.lo) && decide (s.lo ≤ s.hi) && decide (s.hi ≤ 1099511627776)
theorem rmay_spec (L : Linked code) (s : Sp) : Pure L 137 [I s.lo, I s.hi] (B (mayS s)) := by
  intro H K hk
  refine go_spec L code137 rfl ?_
  repeat (refine gk lossU ?_)
  (refine gt lossU ?_ ?_ <;> intro h)
  all_goals repeat (refine gk lossU ?_)
  · have h0 := h; clear h
    (refine gt lossU ?_ ?_ <;> intro h)
    all_goals repeat (refine gk lossU ?_)
    all_goals exact resK_some (by simpa [mayS, h, h0, tupled] using hk)
  · exact resK_some (by simpa [mayS, h, tupled] using hk)
theorem rMay_spec (L : Linked code) (s : Sp) : Pure L 139 [I s.lo, I s.hi] (B (mayS s)) := by
  intro H K hk
  refine go_spec L code139 rfl ?_
  repeat (refine gk lossU ?_)
  (refine gt lossU ?_ ?_ <;> intro h)
  all_goals repeat (refine gk lossU ?_)
  · have h0 := h; clear h
    (refine gt lossU ?_ ?_ <;> intro h)
    all_goals repeat (refine gk lossU ?_)
    all_goals exact resK_some (by simpa [mayS, h, h0, tupled] using hk)
  · exact resK_some (by simpa [mayS, h, tupled] using hk)

theorem asks1_spec (L : Linked code) (p : Pk) : Pure L 128 [enc p] (B p.asks) := by
  intro H K hk
  refine go_spec L code128 rfl ?_
  repeat (refine gk lossU ?_)
  exact resK_some hk
theorem asks2_spec (L : Linked code) (p : Pk) : Pure L 133 [enc p] (B p.asks) := by
  intro H K hk
  refine go_spec L code133 rfl ?_
  repeat (refine gk lossU ?_)
  exact resK_some hk
theorem below_spec (L : Linked code) (p : Pk) (l : Led) (b c : Nat) (tk : Tk) (H : Heap) (h1 : H c = some (.obj [ptr b])) (h2 : H b = some (.obj (l.cells tk))) (K) (hk : K (B (decide (p.num < l.big))) H) : Spec L.P L.ν 123 [enc p, ptr c] H K := by
  refine go_spec L code123 rfl ?_
  repeat (refine gk lossU ?_)
  exact resK_some hk
def inS (s : Sp) (n : Int) : Bool := decide (s.lo ≤ n) && decide (n ≤ s.hi)
theorem inS_spec (L : Linked code) (s : Sp) (c : Nat) (n : Int) (H : Heap) (h1 : H c = some (.obj [I n])) (K) (hk : K (B (inS s n)) H) : Spec L.P L.ν 140 [encS s, ptr c] H K := by
  refine go_spec L code140 rfl ?_
  repeat (refine gk lossU ?_)
  (refine gt lossU ?_ ?_ <;> intro h)
  all_goals repeat (refine gk lossU ?_)
  all_goals exact resK_some (by simpa [inS, h, tupled] using hk)
/-- Bounds under which nothing wraps. -/
def sm (n : Int) : Prop := -2305843009213693952 ≤ n ∧ n ≤ 2305843009213693952
def lostB (big now late : Int) (p : Pk) : Bool := decide (p.num < big) && (decide (p.num ≤ big - 3) || decide (p.at' ≤ now - late))
theorem lost1_spec (L : Linked code) (p : Pk) (l : Led) (b c c1 c2 : Nat) (now late : Int) (tk : Tk) (H : Heap) (h1 : H c = some (.obj [ptr b])) (h2 : H b = some (.obj (l.cells tk))) (h3 : H c1 = some (.obj [I now])) (h4 : H c2 = some (.obj [I late]))
    (g1 : sm l.big) (g2 : sm now) (g3 : sm late) (K) (hk : K (B (lostB l.big now late p)) H) : Spec L.P L.ν 121 [enc p, ptr c, ptr c1, ptr c2] H K := by
  unfold sm at g1 g2 g3
  refine go_spec L code121 rfl ?_
  repeat (refine gk lossU ?_)
  (refine gt lossU ?_ ?_ <;> intro h)
  · repeat (refine gk lossU ?_)
    have h0 := h; clear h
    (refine gt lossU ?_ ?_ <;> intro h)
    all_goals repeat (refine gk lossU ?_)
    all_goals exact resK_some (by simpa [lostB, h, h0, tupled] using hk)
  · repeat (refine gk lossU ?_)
    exact resK_some (by simpa [lostB, h, tupled] using hk)

theorem len_spec (L : Linked code) (b : Nat) (l : Led) (tk : Tk) (H : Heap) (h : LedAt H b l tk) (K) (hk : K (I l.opn.length) H) : Spec L.P L.ν 110 [ptr b] H K := by
  obtain ⟨h1, h2⟩ := h
  refine go_spec L code110 rfl ?_
  repeat (refine gk lossU ?_)
  exact resK_some hk
theorem largest_spec (L : Linked code) (b : Nat) (l : Led) (tk : Tk) (H : Heap) (h : LedAt H b l tk) (K) (hk : K (.tu [I (if l.big = -1 then 0 else l.big), B (l.big != -1)]) H) : Spec L.P L.ν 115 [ptr b] H K := by
  obtain ⟨h1, h2⟩ := h
  refine go_spec L code115 rfl ?_
  repeat (refine gk lossU ?_)
  (refine ct lossU ?_ ?_ <;> intro h)
  · repeat (refine gk lossU ?_)
    have : l.big = -1 := by simpa using h
    exact resK_some (by simpa [this, tupled] using hk)
  · repeat (refine gk lossU ?_)
    have h0 : l.big ≠ -1 := by simpa using h
    have e : (l.big != -1) = true := bne_iff_ne.mpr h0
    rw [if_neg h0, e] at hk
    exact resK_some hk
end Sm
