/-
  D18,D19,D20,D21,D22,D23,D24,D25
-/
import Derived.Test.YtegmmhldpmmkeaaGreatDoorSmDC
import Derived.Test.YtegmmhldpmmkeaaGreatDoorSmTB
set_option linter.unusedVariables false
set_option linter.unusedSimpArgs false
set_option maxRecDepth 10000
set_option maxHeartbeats 1000000
namespace Sm
open Go
attribute [local irreducible] csem rsem dsem seqK blockK normK finK DK RK JK BR G3 resK Spec Tok Fr CV
end Sm
namespace Sm
open Go
abbrev nilP : HV := .v (.pointer none)
attribute [local irreducible] csem rsem dsem seqK blockK normK finK DK RK JK BR G3 resK Spec Tok Fr CV
end Sm
namespace Sm
open Go
def rnV (n : Nm) : HV := .ag [S n.path, B n.dir, I n.id]
def rcV (c : Chg) : HV := .ag [.sl .no 3 (c.gone.map rnV), .sl .no 3 (c.came.map rnV)]
def rfV (f : Fl) : HV := .ag [S f.b, I f.safe]
def rkV (d : Dk) : HV := .ag [I d.room, .sl .no 3 (d.sure.map rnV), .sl .no 2 (d.loose.map rcV), .sl .no 2 (d.f.map rfV), B d.down, I d.ops, I d.fails, B d.done, I d.wrong]
def GA (H0 H : Heap) (sz : Nat) (v : HV) (es : List HV) : Prop := (v = .v (.slice none 0 0) ∧ es = []) ∨ ∃ tk, v = .sl tk sz es ∧ Tok H tk es.length sz ∧ Fresh H0 tk
attribute [local irreducible] csem rsem dsem seqK blockK normK finK DK RK JK BR G3 resK Spec Tok Fr CV
end Sm
namespace Sm
open Go
attribute [local irreducible] csem rsem dsem seqK blockK normK finK DK RK JK BR G3 resK Spec Tok Fr CV GA
end Sm
namespace Sm
open Go
attribute [local irreducible] csem rsem dsem seqK blockK normK finK DK RK JK BR G3 resK Spec Tok Fr CV GA
end Sm
namespace Sm
open Go
attribute [local irreducible] csem rsem dsem seqK blockK normK finK DK RK JK BR G3 resK Spec Tok Fr CV GA
end Sm
namespace Sm
open Go
attribute [local irreducible] csem rsem dsem seqK blockK normK finK DK RK JK BR G3 resK Spec Tok Fr CV GA
end Sm
namespace Sm
open Go
attribute [local irreducible] csem rsem dsem seqK blockK normK finK DK RK JK BR G3 resK Spec Tok Fr CV GA
end Sm
