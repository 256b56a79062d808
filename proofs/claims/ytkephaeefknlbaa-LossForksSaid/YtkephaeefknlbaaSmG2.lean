/-
  A layer of one's own: text G2.
-/
import Derived.Test.YtkephaeefknlbaaSmG1
import Derived.Test.YtkephaeefknlbaaSmL13
import Derived.Test.YtkephaeefknlbaaSmLink
set_option linter.unusedVariables false
namespace Sm
open Go Go.Proofs

theorem cells3 : Try.prog.cellsOf 3 = 1 := by kernel_rfl
theorem cells53 : Try.prog.cellsOf 53 = 2 := by kernel_rfl
def fS (s : Sp) : List HV := [I s.lo, I s.hi]
section
variable {H : Type} {enc : TypeId × Value → H} {w : World} {base : Nat} {spare : Nat → Bool} {held : Bool}
theorem span_open {n : Nat} {cs : List Value} {y : DataW H × List MemPlace} (h : DataW.trod enc Try.prog w base spare held n 53 cs = some y) : ∃ s : Sp, repL nu (sizes' w) w (fS s) cs ∧ (fS s).all HV.one = true ∧ (fS s).length = 2 := by
  obtain ⟨xs, k, _, _, hl, hx, hf⟩ := DataW.trod_struct Try.underlying53 h
  rw [cells53] at hl
  match xs, hx, cs, hl with
  | [y0, y1], _, [v0, v1], _ =>
    have g0 := hf 0 _ rfl
    have g1 := hf 1 _ rfl
    simp [cells3] at g0 g1
    obtain ⟨a0, e0, _, _⟩ := DataW.trod_int Try.underlying3 g0
    obtain ⟨a1, e1, _, _⟩ := DataW.trod_int Try.underlying3 g1
    cases e0; cases e1
    exact ⟨⟨a0, a1⟩, by simp [fS, repL, rep], rfl, rfl⟩

theorem cells38 : Try.prog.cellsOf 38 = 8 := by kernel_rfl
theorem cells30 : Try.prog.cellsOf 30 = 4 := by kernel_rfl
theorem cells36 : Try.prog.cellsOf 36 = 1 := by kernel_rfl
theorem cells5 : Try.prog.cellsOf 5 = 1 := by kernel_rfl
theorem cells4 : Try.prog.cellsOf 4 = 1 := by kernel_rfl
def fA (a : Act) : List HV := [.v (.int .u8 a.kind), I a.p.num, I a.p.at', I a.p.size, B a.p.asks, .sl .no 2 (a.spans.map encS), I a.now, I a.late]
instance : Inhabited Act := ⟨⟨0, zPk, [], 0, 0⟩⟩
theorem act_open {n : Nat} {cs : List Value} {y : DataW H × List MemPlace} (h : DataW.trod enc Try.prog w base spare held n 38 cs = some y) : ∃ a : Act, repL nu (sizes' w) w (fA a) cs ∧ (fA a).all HV.one = true ∧ (fA a).length = 8 := by
  obtain ⟨xs, k, _, _, hl, hx, hf⟩ := DataW.trod_struct Try.underlying38 h
  rw [cells38] at hl
  match xs, hx, cs, hl with
  | [y0, y1, y2, y3, y4], _, [v0, v1, v2, v3, v4, v5, v6, v7], _ =>
    have g0 := hf 0 _ rfl
    have g1 := hf 1 _ rfl
    have g2 := hf 2 _ rfl
    have g3 := hf 3 _ rfl
    have g4 := hf 4 _ rfl
    simp [cells3, cells5, cells30, cells36] at g0 g1 g2 g3 g4
    obtain ⟨a0, e0, _, _⟩ := DataW.trod_int Try.underlying5 g0
    obtain ⟨a3, e3, _, _⟩ := DataW.trod_int Try.underlying3 g3
    obtain ⟨a4, e4, _, _⟩ := DataW.trod_int Try.underlying3 g4
    obtain ⟨l, hr⟩ := open_sl (ν := nu) fS 2 (by decide) Try.underlying36 cells53 (fun n cs' y hy => span_open hy) g2
    obtain ⟨ys, k2, _, _, hl2, hx2, hf2⟩ := DataW.trod_struct Try.underlying30 g1
    match ys, hx2 with
    | [z0, z1, z2, z3], _ =>
      have q0 := hf2 0 _ rfl
      have q1 := hf2 1 _ rfl
      have q2 := hf2 2 _ rfl
      have q3 := hf2 3 _ rfl
      simp [cells3, cells4] at q0 q1 q2 q3
      obtain ⟨b0, i0, _, _⟩ := DataW.trod_int Try.underlying3 q0
      obtain ⟨b1, i1, _, _⟩ := DataW.trod_int Try.underlying3 q1
      obtain ⟨b2, i2, _, _⟩ := DataW.trod_int Try.underlying3 q2
      obtain ⟨b3, i3, _⟩ := DataW.trod_bool Try.underlying4 q3
      cases e0; cases e3; cases e4; cases i0; cases i1; cases i2; cases i3
      refine ⟨⟨a0, ⟨b0, b1, b2, b3⟩, l, a3, a4⟩, ?_, rfl, rfl⟩
      simp only [repL] at hr
      obtain ⟨u, us, e, h1, rfl⟩ := hr
      cases e
      simp only [fA, repL]
      refine ⟨_, _, rfl, by simp [rep], _, _, rfl, by simp [rep], _, _, rfl, by simp [rep], _, _, rfl, by simp [rep], _, _, rfl, by simp [rep], _, _, rfl, h1, _, _, rfl, by simp [rep], _, _, rfl, by simp [rep], rfl⟩
end
end Sm
