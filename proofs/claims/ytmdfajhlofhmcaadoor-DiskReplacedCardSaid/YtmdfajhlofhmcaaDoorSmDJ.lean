/-
  A layer of one's own: texts D31,D32.
-/
import Derived.Test.YtmdfajhlofhmcaaDoorSmDI
set_option linter.unusedVariables false
set_option linter.unusedSimpArgs false
set_option maxRecDepth 10000
set_option maxHeartbeats 2000000
namespace Sm
open Go
-- BASE akU
/-- A call. -/
structure Ak where
  kind : UInt8
  p : List UInt8
  q : List UInt8
  b : List UInt8
  n : Int
  done : Bool
  deriving Inhabited
def akV (a : Ak) : HV := .ag [U a.kind, S a.p, S a.q, .sl .no 1 (a.b.map U), I a.n, B a.done]
theorem akU : (∀ d : Dk, rkV d = .ag [I d.room, .sl .no 3 (d.sure.map rnV), .sl .no 2 (d.loose.map rcV), .sl .no 2 (d.f.map rfV), B d.down, I d.ops, I d.fails, B d.done, I d.wrong]) ∧ (∀ a : Ak, akV a = .ag [U a.kind, S a.p, S a.q, .sl .no 1 (a.b.map U), I a.n, B a.done]) ∧ (∀ e : Ent, encE e = .ag [S e.path, B e.dir, .sl .no 1 (e.data.map U)]) := ⟨fun _ => rfl, fun _ => rfl, fun _ => rfl⟩
def doJ (d : Dk) (a : Ak) : Nat → Dk × Int
  | 0 => d.put a.p false
  | 1 => d.append a.p a.b
  | 2 => d.cut a.p a.n
  | 3 => d.sync a.p
  | 4 => d.put a.p true
  | 5 => d.remove a.p
  | 6 => d.rename a.p a.q
  | 7 => d.syncDirs
  | 8 => d.fail a.n a.done
  | 9 => d.fault a.n
  | _ => (d.crash a.n a.b, 0)
/-- What a call leaves, and answers. -/
def doD (d : Dk) (a : Ak) : Dk × Int := doJ d a (a.kind.toNat % 12)
theorem Own.tail {H Y Z : Heap} {bs bs' cs : List Nat} (h : Own H Y bs bs') (hf : Fr cs Y Z) (hn : ∀ a ∈ cs, H a = none) : Own H Z bs bs' :=
  ⟨Fr.make2 fun a r ha hr => hf.get (fun hm => by rw [hn a hm] at hr; cases hr) (h.get ha hr), h.nw⟩
theorem CB_bv {H : Heap} {v : HV} {l : List UInt8} (h : CB H v l) : BV H v l := by
  rcases h with ⟨rfl, rfl⟩ | ⟨rfl, rfl⟩ | ⟨a, c, zs, rfl, h, _⟩
  · exact .inr (.inl ⟨rfl, rfl⟩)
  · exact .inl ⟨.full, rfl⟩
  · exact .inr (.inr ⟨a, c, zs, rfl, h⟩)
theorem CB.own {H X : Heap} {bs bs' : List Nat} {v : HV} {l : List UInt8} (h : CB H v l) (o : Own H X bs bs') (hb : ∀ a ∈ fvb v, a ∉ bs) : CB X v l := by
  rcases h with h | h | ⟨a, c, zs, rfl, h, h2⟩
  · exact .inl h
  · exact .inr (.inl h)
  · exact .inr (.inr ⟨a, c, zs, rfl, o.get (hb a (by simp [fvb])) h, h2⟩)
theorem CB.apart {H X : Heap} {bs bs' : List Nat} {v : HV} {l : List UInt8} (h : CB H v l) (o : Own H X bs bs') (hb : ∀ a ∈ fvb v, a ∉ bs) : ∀ a ∈ fvb v, a ∉ bs' := fun a ha => by
  obtain ⟨cs, hc⟩ := h.held a ha
  exact o.apart (hb a ha) hc
attribute [local irreducible] csem rsem dsem seqK blockK normK finK DK RK JK BR G3 resK Spec Tok Fr CV GA

end Sm

set_option linter.unusedVariables false
set_option linter.unusedSimpArgs false
set_option maxRecDepth 10000
set_option maxHeartbeats 2000000
namespace Sm
open Go
-- BASE akU
def smallA (a : Ak) : Bool := decide (a.p.length ≤ 300) && decide (a.q.length ≤ 300)
def sizA (l : List Ak) : Nat := (l.map fun a => min a.b.length 4001).sum
def fewD (l : List Ak) (most : Int) : Bool := decide ((l.length : Int) ≤ most) && (l.all smallA && decide (sizA l ≤ 4000))
def crashedD (l : List Ak) : Bool := l.any fun a => decide (10 ≤ a.kind.toNat % 12)
def szE (l : List Ent) : Nat := (l.map fun e => e.data.length).sum
attribute [local irreducible] csem rsem dsem seqK blockK normK finK DK RK JK BR G3 resK Spec Tok Fr CV GA

end Sm
