/-
  A layer of one's own: text L23.
-/
import Derived.Test.YtkephaeefknlbaaSmL22
set_option linter.unusedVariables false
set_option linter.unusedSimpArgs false
set_option maxRecDepth 10000
set_option maxHeartbeats 2000000
namespace Sm
open Go
-- BASE lossU
theorem Fr.make {bs : List Nat} {H H' : Heap} (h : ∀ a r, a ∉ bs → H a = some r → H' a = some r) : Fr bs H H' := h
theorem Tok.full2 (H : Heap) (n sz : Nat) : Tok H .full n sz := trivial
attribute [local irreducible] csem rsem dsem seqK blockK normK finK DK RK JK BR G3 resK Spec Tok Fr

theorem clone_spec (L : Linked code) (tk : Tk) (l : List Pk) (hlen : l.length ≤ 1048576) (H : Heap) (K)
    (hk : ∀ H' tk', Tok H' tk' l.length 4 → Apd H H' .full tk' → K (.sl tk' 4 (l.map enc)) H') : Spec L.P L.ν 132 [.sl tk 4 (l.map enc)] H K := by
  refine go_spec L code132 rfl ?_
  repeat (refine gk lossU ?_)
  refine r_isnil rfl fun t ht => ?_
  cases t
  · repeat (refine gk lossU ?_)
    apply r_app; (focus rfl); (focus rfl); (focus exact Tok.full2 _ _ _); (focus (simp; omega))
    intro tk' H' h1 h2
    repeat (refine gk lossU ?_)
    exact resK_some (hk H' tk' (by simpa using h1) h2)
  · have hl : l = [] := by simpa using ht rfl
    subst hl
    repeat (refine gk lossU ?_)
    refine resK_weak (h' := .sl .full 4 []) (Weak.nil 4) (hk H .full (Tok.full2 _ _ _) (Apd.refl _ _))

theorem fork_spec (L : Linked code) (b : Nat) (l : Led) (tk : Tk) (H : Heap) (h : LedAt H b l tk) (hlen : l.opn.length ≤ 1048576) (K)
    (hk : ∀ c H' tk', H c = none → Fr [] H H' → (∀ a ∈ tb tk', H a = none) → LedAt H' c l tk' → K (ptr c) H') : Spec L.P L.ν 113 [ptr b] H K := by
  obtain ⟨h1, h2⟩ := h
  refine go_spec L code113 rfl ?_
  repeat (refine gk lossU ?_)
  refine r_allocH fun c hc => ?_
  have hcb : b ≠ c := by rintro rfl; rw [hc] at h1; cases h1
  generalize hX : H.upd c _ = X
  have x1 : X c = some (.obj [.v (.slice none 0 0), .v (.int .i64 0), .v (.int .i64 0), .v (.int .i64 0), .v (.bool false), .v (.bool false), .v (.int .i64 0)]) := by rw [← hX]; exact Heap.upd_same _ _ _
  have x2 : Fr [] H X := by rw [← hX]; exact Fr.new hc
  repeat (refine gk lossU ?_)
  refine sxk lossU ?_
  intro Y y1 y2
  have y3 : Y b = some (.obj (l.cells tk)) := y2.get (by simpa using hcb) (x2.get (by simp) h1)
  repeat (refine gk lossU ?_)
  (apply r_call; (focus rfl))
  refine clone_spec L tk l.opn hlen Y _ fun Z tk' z1 z2 => ?_
  have f1 : Fr [c] H Y := (x2.mono (by simp)).trans y2
  have f2 : Fr [c] H Z := f1.trans (by simpa [tb] using z2.fr.mono (by simp [tb]))
  have z3 : Z c = some (.obj (l.cells tk)) := z2.fr.get (by simp [tb]) y1
  have n1 : ∀ a ∈ tb tk', Y a = none := fun a ha => by simpa [tb] using z2.nw a ha
  have n2 : ∀ a ∈ tb tk', a ≠ c := fun a ha e => by subst e; have := n1 a ha; rw [y1] at this; cases this
  repeat (refine gk lossU ?_)
  refine sxk lossU ?_
  intro W w1 w2
  repeat (refine gk lossU ?_)
  refine resK_some (hk c W tk' hc ?_ ?_ ⟨w1, z1.fr' w2 (by simpa using n2)⟩)
  · refine Fr.make fun a r _ hr => ?_
    have hac : a ≠ c := by rintro rfl; rw [hc] at hr; cases hr
    exact w2.get (by simpa using hac) (f2.get (by simpa using hac) hr)
  · intro a ha
    cases hr : H a with
    | none => rfl
    | some r => have := f1.get (by simpa using n2 a ha) hr; rw [n1 a ha] at this; cases this
end Sm
