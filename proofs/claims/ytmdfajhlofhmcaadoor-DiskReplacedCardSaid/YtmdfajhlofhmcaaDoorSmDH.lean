/-
  A layer of one's own: texts D20,D21,D22,D23,D24,D25.
-/
import Derived.Test.YtmdfajhlofhmcaaDoorSmDG
import Derived.Test.YtmdfajhlofhmcaaDoorSmTD
set_option linter.unusedVariables false
set_option linter.unusedSimpArgs false
set_option maxRecDepth 10000
set_option maxHeartbeats 1000000
namespace Sm
open Go
-- BASE rkU
/-- The reference's values. -/
def rnV (n : Nm) : HV := .ag [S n.path, B n.dir, I n.id]
def rcV (c : Chg) : HV := .ag [.sl .no 3 (c.gone.map rnV), .sl .no 3 (c.came.map rnV)]
def rfV (f : Fl) : HV := .ag [S f.b, I f.safe]
def rkV (d : Dk) : HV := .ag [I d.room, .sl .no 3 (d.sure.map rnV), .sl .no 2 (d.loose.map rcV), .sl .no 2 (d.f.map rfV), B d.down, I d.ops, I d.fails, B d.done, I d.wrong]
theorem rkU : (∀ n : Nm, rnV n = .ag [S n.path, B n.dir, I n.id]) ∧ (∀ c : Chg, rcV c = .ag [.sl .no 3 (c.gone.map rnV), .sl .no 3 (c.came.map rnV)]) ∧ (∀ f : Fl, rfV f = .ag [S f.b, I f.safe]) ∧ (∀ d : Dk, rkV d = .ag [I d.room, .sl .no 3 (d.sure.map rnV), .sl .no 2 (d.loose.map rcV), .sl .no 2 (d.f.map rfV), B d.down, I d.ops, I d.fails, B d.done, I d.wrong]) ∧ (∀ e : Ent, encE e = .ag [S e.path, B e.dir, .sl .no 1 (e.data.map U)]) := ⟨fun _ => rfl, fun _ => rfl, fun _ => rfl, fun _ => rfl, fun _ => rfl⟩
/-- A slice that grows, from none. -/
def GA (H0 H : Heap) (sz : Nat) (v : HV) (es : List HV) : Prop := (v = .v (.slice none 0 0) ∧ es = []) ∨ ∃ tk, v = .sl tk sz es ∧ Tok H tk es.length sz ∧ Fresh H0 tk
theorem GA.nil (H0 H : Heap) (sz : Nat) : GA H0 H sz (.v (.slice none 0 0)) [] := .inl ⟨rfl, rfl⟩
theorem GA.fr {H0 H X : Heap} {sz : Nat} {v : HV} {es : List HV} (h : GA H0 H sz v es) (hf : Fr [] H X) : GA H0 X sz v es := by
  rcases h with h | ⟨tk, h1, h2, h3⟩
  · exact .inl h
  · exact .inr ⟨tk, h1, h2.fr' hf (by simp), h3⟩
theorem GA.full (H0 H : Heap) (sz : Nat) (es : List HV) : GA H0 H sz (.sl .full sz es) es := .inr ⟨.full, rfl, Tok.ful _ _ _, by simp [Fresh, tb]⟩
attribute [local irreducible] csem rsem dsem seqK blockK normK finK DK RK JK BR G3 resK Spec Tok Fr CV

end Sm

set_option linter.unusedVariables false
set_option linter.unusedSimpArgs false
set_option maxRecDepth 10000
set_option maxHeartbeats 1000000
namespace Sm
open Go
-- BASE rkU
attribute [local irreducible] csem rsem dsem seqK blockK normK finK DK RK JK BR G3 resK Spec Tok Fr CV GA

end Sm

set_option linter.unusedVariables false
set_option linter.unusedSimpArgs false
set_option maxRecDepth 10000
set_option maxHeartbeats 1000000
namespace Sm
open Go
-- BASE rkU
def nmZ (o : Option Nm) : Nm := o.getD ⟨[], false, 0⟩
attribute [local irreducible] csem rsem dsem seqK blockK normK finK DK RK JK BR G3 resK Spec Tok Fr CV GA

end Sm

set_option linter.unusedVariables false
set_option linter.unusedSimpArgs false
set_option maxRecDepth 10000
set_option maxHeartbeats 1000000
namespace Sm
open Go
-- BASE rkU
theorem GA.one {H0 H : Heap} {sz : Nat} {v : HV} {es : List HV} (h : GA H0 H sz v es) : v.one = true ∧ v.el = true ∧ v.ncells = 1 ∧ v.cells = [v] := by
  rcases h with ⟨rfl, rfl⟩ | ⟨tk, rfl, _⟩ <;> exact ⟨rfl, rfl, rfl, rfl⟩
attribute [local irreducible] csem rsem dsem seqK blockK normK finK DK RK JK BR G3 resK Spec Tok Fr CV GA

end Sm

set_option linter.unusedVariables false
set_option linter.unusedSimpArgs false
set_option maxRecDepth 10000
set_option maxHeartbeats 1000000
namespace Sm
open Go
-- BASE rkU
attribute [local irreducible] csem rsem dsem seqK blockK normK finK DK RK JK BR G3 resK Spec Tok Fr CV GA

end Sm

set_option linter.unusedVariables false
set_option linter.unusedSimpArgs false
set_option maxRecDepth 10000
set_option maxHeartbeats 1000000
namespace Sm
open Go
-- BASE rkU
attribute [local irreducible] csem rsem dsem seqK blockK normK finK DK RK JK BR G3 resK Spec Tok Fr CV GA

end Sm
