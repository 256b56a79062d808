/-
  A layer of one's own: text A.
-/
import Derived.Below
import Derived.Calls
import Derived.Tactics
import Derived.Laws.OwnMore
import Derived.Laws.Rows
import Derived.Deep.Draws
import Derived.RowKit3
set_option linter.unusedVariables false
set_option linter.unusedSimpArgs false
namespace Sm
open Go

/-- The right to grow a slice: none; the slice ends where block 'b' is committed up to; its capacity is its length. -/
inductive Tk where
  | no | tip (b cap : Nat) | full
  deriving DecidableEq, Inhabited

/-- Abstract values. -/
inductive HV where
  | v (x : Value)
  | sl (tk : Tk) (sz : Nat) (es : List HV)
  | rp (cs : List HV)
  | fn (g : Nat) (caps : List HV)
  | ag (cs : List HV)
  | tu (vs : List HV)
  deriving Inhabited

def HV.one : HV → Bool
  | .v x => x.oneCell'
  | .sl .. => true
  | .rp _ => true
  | .fn .. => true
  | _ => false
def HV.ncells : HV → Nat
  | .ag cs => cs.length
  | _ => 1
def HV.el : HV → Bool
  | .ag cs => cs.all HV.one
  | h => h.one
def HV.cells : HV → List HV
  | .ag cs => cs
  | h => [h]

def cellsAt (w : World) (b off : Nat) (us : List Value) : Prop := ∀ j x, us[j]? = some x → w.cell? ⟨b, off + j, none⟩ = some x

def flat (vals : List Value) : List Value := vals.flatMap fun v => v.cells.toList

def tkok (tk : Tk) (A : Option Addr) (n cap : Nat) : Prop :=
  match tk with
  | .no => True
  | .tip b c => A = some ⟨b, 0, none⟩ ∧ cap = c
  | .full => cap = n

mutual
/-- 'rep ν K w h u': the value u is what h tells. -/
def rep (ν : Nat → Option Nat) (K : Nat → Nat) (w : World) : HV → Value → Prop
  | .v x, u => u = x
  | .sl tk sz es, u => ∃ A cap vals, u = .slice A es.length cap ∧ es.length ≤ cap ∧ cap ≤ maxLen ∧ tkok tk A es.length cap ∧
      es.all HV.el = true ∧ (∀ e ∈ es, e.ncells = sz) ∧ repL ν K w es vals ∧
      (es = [] ∨ ∃ b off, A = some ⟨b, off, none⟩ ∧ off + es.length * sz ≤ K b ∧ cellsAt w b off (flat vals))
  | .rp cs, u => ∃ b off us, u = .pointer (some ⟨b, off, none⟩) ∧ cs.all HV.one = true ∧ repL ν K w cs us ∧ off + us.length ≤ K b ∧ cellsAt w b off us
  | .fn g caps, u => ∃ n us, ν n = some g ∧ u = .func (.func n) #[] us.toArray ∧ repL ν K w caps us
  | .ag cs, u => ∃ us, u = .agg us.toArray ∧ cs.all HV.one = true ∧ repL ν K w cs us
  | .tu vs, u => ∃ us, u = .tuple us.toArray ∧ repL ν K w vs us
def repL (ν : Nat → Option Nat) (K : Nat → Nat) (w : World) : List HV → List Value → Prop
  | [], us => us = []
  | h :: hs, us => ∃ u us', us = u :: us' ∧ rep ν K w h u ∧ repL ν K w hs us'
end

structure Grow (w : World) (K : Nat → Nat) (w' : World) (K' : Nat → Nat) : Prop where
  le : ∀ b, K b ≤ K' b
  cell : ∀ b j, j < K b → w'.cell? ⟨b, j, none⟩ = w.cell? ⟨b, j, none⟩

theorem Grow.refl (w : World) (K : Nat → Nat) : Grow w K w K := ⟨fun _ => Nat.le_refl _, fun _ _ _ => rfl⟩
theorem Grow.trans {w K w1 K1 w2 K2} (h : Grow w K w1 K1) (k : Grow w1 K1 w2 K2) : Grow w K w2 K2 :=
  ⟨fun b => Nat.le_trans (h.le b) (k.le b), fun b j hj => (k.cell b j (Nat.lt_of_lt_of_le hj (h.le b))).trans (h.cell b j hj)⟩

theorem cellsAt.grow {w K w' K' b off us} (hg : Grow w K w' K') (hb : off + us.length ≤ K b) (h : cellsAt w b off us) : cellsAt w' b off us := by
  intro j x hx
  have hj : j < us.length := by
    rcases Nat.lt_or_ge j us.length with h | h
    · exact h
    · rw [List.getElem?_eq_none h] at hx; cases hx
  rw [hg.cell b (off + j) (by omega)]
  exact h j x hx

theorem repL_length {ν K w} : ∀ {hs : List HV} {us : List Value}, repL ν K w hs us → us.length = hs.length
  | [], us, h => by simp [repL] at h; simp [h]
  | h :: hs, us, hr => by
    simp only [repL] at hr
    obtain ⟨u, us', rfl, _, h2⟩ := hr
    simp [repL_length h2]

theorem rep_cells_size {ν K w h u} (he : h.el = true) (hr : rep ν K w h u) : u.cells.size = h.ncells := by
  cases h with
  | v x =>
    simp only [rep] at hr; subst hr
    cases u <;> simp [HV.el, HV.one, Value.oneCell', Value.cells, HV.ncells] at *
  | sl tk sz es => simp only [rep] at hr; obtain ⟨A, cap, vals, rfl, _⟩ := hr; rfl
  | rp cs => simp only [rep] at hr; obtain ⟨b, off, us, rfl, _⟩ := hr; rfl
  | fn g caps => simp only [rep] at hr; obtain ⟨n, us, _, rfl, _⟩ := hr; rfl
  | ag cs => simp only [rep] at hr; obtain ⟨us, rfl, _, h2⟩ := hr; simp [Value.cells, HV.ncells, repL_length h2]
  | tu vs => simp [HV.el, HV.one] at he

theorem flat_length {ν K w sz} : ∀ {es : List HV} {vals : List Value}, repL ν K w es vals → es.all HV.el = true → (∀ e ∈ es, e.ncells = sz) → (flat vals).length = es.length * sz
  | [], vals, h, _, _ => by simp [repL] at h; simp [h, flat]
  | e :: es, vals, hr, ha, hs => by
    simp only [repL] at hr
    obtain ⟨u, us', rfl, h1, h2⟩ := hr
    simp only [List.all_cons, Bool.and_eq_true] at ha
    have ih := flat_length h2 ha.2 (fun e he => hs e (by simp [he]))
    have h3 := rep_cells_size ha.1 h1
    have h4 := hs e (by simp)
    simp only [flat, List.flatMap_cons, List.length_append, Array.length_toList, h3, h4] at ih ⊢
    rw [ih, List.length_cons, Nat.add_mul]; omega

mutual
theorem rep.grow {ν K w K' w'} (hg : Grow w K w' K') : ∀ (h : HV) {u : Value}, rep ν K w h u → rep ν K' w' h u
  | .v x, u, hr => by simpa [rep] using hr
  | .sl tk sz es, u, hr => by
    simp only [rep] at hr ⊢
    obtain ⟨A, cap, vals, h1, h2, h3, h4, h5, h6, h7, h8⟩ := hr
    have hfl := flat_length h7 h5 h6
    refine ⟨A, cap, vals, h1, h2, h3, h4, h5, h6, repL.grow hg es h7, ?_⟩
    rcases h8 with h8 | ⟨b, off, hA, hK, hc⟩
    · exact .inl h8
    · exact .inr ⟨b, off, hA, Nat.le_trans hK (hg.le b), hc.grow hg (by rw [hfl]; exact hK)⟩
  | .rp cs, u, hr => by
    simp only [rep] at hr ⊢
    obtain ⟨b, off, us, h1, h2, h3, h4, h5⟩ := hr
    exact ⟨b, off, us, h1, h2, repL.grow hg cs h3, Nat.le_trans h4 (hg.le b), h5.grow hg h4⟩
  | .fn g caps, u, hr => by
    simp only [rep] at hr ⊢
    obtain ⟨n, us, h1, h2, h3⟩ := hr
    exact ⟨n, us, h1, h2, repL.grow hg caps h3⟩
  | .ag cs, u, hr => by
    simp only [rep] at hr ⊢
    obtain ⟨us, h1, h2, h3⟩ := hr
    exact ⟨us, h1, h2, repL.grow hg cs h3⟩
  | .tu vs, u, hr => by
    simp only [rep] at hr ⊢
    obtain ⟨us, h1, h3⟩ := hr
    exact ⟨us, h1, repL.grow hg vs h3⟩
theorem repL.grow {ν K w K' w'} (hg : Grow w K w' K') : ∀ (hs : List HV) {us : List Value}, repL ν K w hs us → repL ν K' w' hs us
  | [], us, hr => by simpa [repL] using hr
  | h :: hs, us, hr => by
    simp only [repL] at hr ⊢
    obtain ⟨u, us', h1, h2, h3⟩ := hr
    exact ⟨u, us', h1, rep.grow hg h h2, repL.grow hg hs h3⟩
end

/-- Resources of the abstract heap. -/
inductive Res where
  | obj (cs : List HV)
  | tip (e c : Nat)
  deriving Inhabited
abbrev Heap := Nat → Option Res

def resok (ν : Nat → Option Nat) (K : Nat → Nat) (w : World) (b : Nat) : Res → Prop
  | .obj cs => ∃ us T, w.heap[b]? = some (.cells us T (0, 0)) ∧ K b = 0 ∧ repL ν K w cs us.toList ∧ cs.all HV.one = true
  | .tip e c => ∃ us T, w.heap[b]? = some (.cells us T (0, 0)) ∧ K b = e ∧ e ≤ us.size ∧ c ≤ us.size

structure hsat (ν : Nat → Option Nat) (w : World) (K : Nat → Nat) (H : Heap) : Prop where
  res : ∀ b r, H b = some r → resok ν K w b r
  fresh : ∀ b, w.heap.size ≤ b → K b = 0

structure Ext (w : World) (K : Nat → Nat) (H : Heap) (w' : World) (K' : Nat → Nat) (H' : Heap) : Prop where
  os : w'.os = w.os
  tape : w'.tape = w.tape
  output : w'.output = w.output
  size : w.heap.size ≤ w'.heap.size
  grow : Grow w K w' K'
  same : ∀ b, b < w.heap.size → H b = none → w'.heap[b]? = w.heap[b]? ∧ K' b = K b ∧ H' b = none
  fz : ∀ a, w.frozen? a = false → w'.frozen? a = false

theorem Ext.refl (w K H) : Ext w K H w K H := ⟨rfl, rfl, rfl, Nat.le_refl _, Grow.refl _ _, fun _ _ h => ⟨rfl, rfl, h⟩, fun _ h => h⟩
theorem Ext.trans {w K H w1 K1 H1 w2 K2 H2} (h : Ext w K H w1 K1 H1) (k : Ext w1 K1 H1 w2 K2 H2) : Ext w K H w2 K2 H2 :=
  ⟨k.os.trans h.os, k.tape.trans h.tape, k.output.trans h.output, Nat.le_trans h.size k.size, h.grow.trans k.grow, fun b hb hH => by
    obtain ⟨a1, a2, a3⟩ := h.same b hb hH
    obtain ⟨b1, b2, b3⟩ := k.same b (Nat.lt_of_lt_of_le hb h.size) a3
    exact ⟨b1.trans a1, b2.trans a2, b3⟩, fun a ha => k.fz a (h.fz a ha)⟩

theorem resok_lt {ν K w b r} (h : resok ν K w b r) : b < w.heap.size := by
  have key : ∀ o, w.heap[b]? = some o → b < w.heap.size := fun o ho => by
    rcases Nat.lt_or_ge b w.heap.size with h | h
    · exact h
    · rw [Array.getElem?_eq_none h] at ho; cases ho
  cases r with
  | obj cs => obtain ⟨us, T, h1, _⟩ := h; exact key _ h1
  | tip e c => obtain ⟨us, T, h1, _⟩ := h; exact key _ h1
theorem hsat.lt {ν w K H b r} (h : hsat ν w K H) (hb : H b = some r) : b < w.heap.size := resok_lt (h.res b r hb)
theorem hsat.none_new {ν w K H b} (h : hsat ν w K H) (hb : w.heap.size ≤ b) : H b = none := by
  cases hh : H b with
  | none => rfl
  | some r => have := h.lt hh; omega

end Sm
