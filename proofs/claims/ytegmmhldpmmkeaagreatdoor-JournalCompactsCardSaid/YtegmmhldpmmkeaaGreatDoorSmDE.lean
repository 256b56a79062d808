/-
  D26,D27,D28,D29,D30,D31,D32
-/
import Derived.Test.YtegmmhldpmmkeaaGreatDoorSmDD
import Derived.Test.YtegmmhldpmmkeaaGreatDoorSmLJ
set_option linter.unusedVariables false
set_option linter.unusedSimpArgs false
set_option maxRecDepth 10000
set_option maxHeartbeats 1000000
namespace Sm
open Go
attribute [local irreducible] csem rsem dsem seqK blockK normK finK DK RK JK BR G3 resK Spec Tok Fr CV GA
end Sm
namespace Sm
open Go
attribute [local irreducible] csem rsem dsem seqK blockK normK finK DK RK JK BR G3 resK Spec Tok Fr CV GA
end Sm
namespace Sm
open Go
attribute [local irreducible] csem rsem dsem seqK blockK normK finK DK RK JK BR G3 resK Spec Tok Fr CV GA
end Sm
namespace Sm
open Go
attribute [local irreducible] csem rsem dsem seqK blockK normK finK DK RK JK BR G3 resK Spec Tok Fr CV GA
end Sm
namespace Sm
open Go
def FR (H X : Heap) (v : HV) (f : List Fl) : Prop := (v = .sl .full 2 [] ∧ f = []) ∨ ∃ b c zs, v = .v (.slice (some ⟨b, 0, none⟩) f.length c) ∧ X b = some (.obj ((f.map rfV).flatMap HV.cells ++ zs)) ∧ f.length ≤ c ∧ c ≤ maxLen ∧ H b = none
attribute [local irreducible] csem rsem dsem seqK blockK normK finK DK RK JK BR G3 resK Spec Tok Fr CV GA
end Sm
set_option maxHeartbeats 2000000
namespace Sm
open Go
structure Ak where
 kind : UInt8
 p : List UInt8
 q : List UInt8
 b : List UInt8
 n : Int
 done : Bool
 deriving Inhabited
def akV (a : Ak) : HV := .ag [U a.kind, S a.p, S a.q, .sl .no 1 (a.b.map U), I a.n, B a.done]
theorem Own.tail {H Y Z : Heap} {bs bs' cs : List Nat} (h : Own H Y bs bs') (hf : Fr cs Y Z) (hn : ∀ a ∈ cs, H a = none) : Own H Z bs bs' :=
 ⟨Fr.make2 fun a r ha hr => hf.get (fun hm => by rw [hn a hm] at hr; cases hr) (h.get ha hr), h.nw⟩
attribute [local irreducible] csem rsem dsem seqK blockK normK finK DK RK JK BR G3 resK Spec Tok Fr CV GA
end Sm
namespace Sm
open Go
attribute [local irreducible] csem rsem dsem seqK blockK normK finK DK RK JK BR G3 resK Spec Tok Fr CV GA
end Sm
