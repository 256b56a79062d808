/-
  A layer of one's own: text V.
-/
import Derived.Test.YtkephaeefknlbaaSmU
set_option linter.unusedVariables false
set_option linter.unusedSimpArgs false
set_option linter.unnecessarySimpa false
namespace Sm
open Go

theorem wp_loop_n {P : Program} {Q : Exit → Act → World → Prop} {c : Code} (J : Nat → Act → World → Prop) {n : Nat} {a : Act} {w : World} (h₀ : J n a w)
    (round : ∀ n a w, J n a w → c.wp P (Exit.then (fun a' w' => ∃ m, m < n ∧ J m a' w') Q) a w) : (Code.loop c).wp P Q a w := by
  intro b k cs
  have key : ∀ n a w, J n a w → ∃ e a' w', Q e a' w' ∧ Arrives P (lone (b.at a (.code c :: .inLoop c :: k)) cs w) b k cs e a' w' := by
    intro n
    induction n using Nat.strongRecOn with
    | _ n ih =>
      intro a w hJ
      obtain ⟨e, a₁, w₁, hq, harr⟩ := round n a w hJ b (.inLoop c :: k) cs
      cases e with
      | normal =>
        obtain ⟨m, hlt, hJ₁⟩ := hq
        obtain ⟨e₂, a₂, w₂, hq₂, harr₂⟩ := ih m hlt a₁ w₁ hJ₁
        exact ⟨e₂, a₂, w₂, hq₂, .of_steps (Steps.trans harr (.one step_inLoop)) harr₂⟩
      | exit id => exact ⟨_, a₁, w₁, hq, .pass (x := .inLoop c) rfl (fun _ _ => .inl (by simp)) harr⟩
      | goto l => exact ⟨_, a₁, w₁, hq, .pass (x := .inLoop c) rfl (fun _ _ => .inl (by simp)) harr⟩
      | ret => exact ⟨_, a₁, w₁, hq, .pass (x := .inLoop c) rfl (fun _ _ => .inl (by simp)) harr⟩
      | panic ch => exact ⟨_, a₁, w₁, hq, .pass (x := .inLoop c) rfl (fun _ _ => .inl (by simp)) harr⟩
      | outgrown => exact ⟨_, a₁, w₁, hq, .pass (x := .inLoop c) rfl (fun _ _ => .inl (by simp)) harr⟩
  obtain ⟨e, a', w', hq, harr⟩ := key n a w h₀
  exact ⟨e, a', w', hq, .of_steps (.one step_loop) harr⟩

def chkOs (P : Program) (ν : Nat → Option Nat) (N : Nat) (ops : Array Oper) : List Oper → List SOper → Bool
  | [], [] => true
  | o :: os, s :: ss => chkO P ν N ops o s && chkOs P ν N ops os ss
  | _, _ => false

theorem chkOs_get {P : Program} {ν : Nat → Option Nat} {N : Nat} {ops : Array Oper} : ∀ {os : List Oper} {ss : List SOper}, chkOs P ν N ops os ss = true → os.length = ss.length ∧ ∀ (k : Nat) o, os[k]? = some o → ∃ s, ss[k]? = some s ∧ chkO P ν N ops o s = true
  | [], [], _ => by simp
  | [], _ :: _, h => by simp [chkOs] at h
  | _ :: _, [], h => by simp [chkOs] at h
  | o :: os, s :: ss, h => by
    simp only [chkOs, Bool.and_eq_true] at h
    obtain ⟨h1, h2⟩ := chkOs_get h.2
    refine ⟨by simp [h1], fun k o' hk => ?_⟩
    cases k with
    | zero => simp at hk; subst hk; exact ⟨s, rfl, h.1⟩
    | succ k => simpa using h2 k o' (by simpa using hk)

def chkD (P : Program) (ν : Nat → Option Nat) (N : Nat) (ops : Array Oper) : List Nat → List DOper → Bool
  | [], [] => true
  | p :: ps, d :: ds => (match ops[p]? with
    | some o => chkO P ν N ops o d.o
    | none => false) && chkD P ν N ops ps ds
  | _, _ => false

theorem chkD_get {P : Program} {ν : Nat → Option Nat} {N : Nat} {ops : Array Oper} : ∀ {ps : List Nat} {ds : List DOper}, chkD P ν N ops ps ds = true → ∀ (k : Nat), k < ps.length → ∃ o, ops[ps[k]!]? = some o ∧ k < ds.length ∧ chkO P ν N ops o (ds[k]!).o = true
  | [], _, _, k, hk => by simp at hk
  | _ :: _, [], h, _, _ => by simp [chkD] at h
  | p :: ps, d :: ds, h, k, hk => by
    simp only [chkD, Bool.and_eq_true] at h
    cases k with
    | zero =>
      have h1 := h.1
      split at h1
      · rename_i o ho; exact ⟨o, by simpa using ho, by simp, by simpa using h1⟩
      · cases h1
    | succ k =>
      obtain ⟨o, a1, a2, a3⟩ := chkD_get h.2 k (by simpa using hk)
      exact ⟨o, by simpa using a1, by simpa using a2, by simpa using a3⟩

def chkC (P : Program) (ν : Nat → Option Nat) (N : Nat) : Code → SC → Bool
  | .skip, .skip => true
  | .region _ ops draw, .reg ss => !draw && chkOs P ν N ops ops.toList ss
  | .region _ ops draw, .dreg perm L => draw && drawOk ops perm L && chkD P ν N ops perm L
  | .seq a b, .seq a' b' => chkC P ν N a a' && chkC P ν N b b'
  | .cond c a b, .cond c' a' b' => okOpd ν c c' && chkC P ν N a a' && chkC P ν N b b'
  | .block i b, .block j b' => decide (i = j) && chkC P ν N b b'
  | .loop b, .loop b' => chkC P ν N b b'
  | .exit i, .exit j => decide (i = j)
  | .ret, .ret => true
  | _, _ => false

def SEx.to : SEx → Exit
  | .normal => .normal
  | .exit i => .exit i
  | .ret => .ret

section
variable {P : Program} {ν : Nat → Option Nat} {w0 : World} {K0 : Nat → Nat} {H0 : Heap} {N : Nat}

theorem Spec_mono {g : Nat} {hs : List HV} {H : Heap} {Q Q' : HV → Heap → Prop} (hq : ∀ h H', Q h H' → Q' h H') (h : Spec P ν g hs H Q) : Spec P ν g hs H Q' :=
  fun n hn w K us h1 h2 => (h n hn w K us h1 h2).mono fun en w' ⟨u, h, H', K', a1, a2, a3, a4, a5⟩ => ⟨u, h, H', K', a1, a2, a3, a4, hq _ _ a5⟩

/-- The state, some ghosts being so. -/
def St' (ν : Nat → Option Nat) (w0 : World) (K0 : Nat → Nat) (H0 : Heap) (N : Nat) (e : Env) (H : Heap) (a : Act) (w : World) : Prop := ∃ K μ, St ν w0 K0 H0 N e H a w K μ

theorem csem_sound (hB : Bodies P ν) (hm : P.follows .mixedOrders = true) : ∀ (c : Code) (s : SC), chkC P ν N c s = true →
    ∀ {e : Env} {H : Heap} {a : Act} {w : World} {Qs : SEx → Env → Heap → Prop} {Q : Exit → Act → World → Prop}, St' ν w0 K0 H0 N e H a w → csem (Spec P ν) s e H Qs →
      (∀ ex e' H' a' w', Qs ex e' H' → St' ν w0 K0 H0 N e' H' a' w' → Q ex.to a' w') → c.wp P Q a w
  | .skip, .skip, _, e, H, a, w, Qs, Q, hst, hs, hQ => wp_skip (hQ .normal e H a w hs hst)
  | .region id ops draw, .reg ss, hk, e, H, a, w, Qs, Q, hst, hs, hQ => by
    simp only [chkC, Bool.and_eq_true, Bool.not_eq_true'] at hk
    obtain ⟨rfl, k1⟩ := hk
    obtain ⟨g1, g2⟩ := chkOs_get k1
    obtain ⟨K, μ, hst⟩ := hst
    simp only [csem] at hs
    refine wp_region ?_
    refine rsem_sound hB (List.range ops.size) ss (by rw [List.length_range, ← Array.length_toList]; exact g1) (fun k hk => ?_) hst hs (fun e' H' a' w' K' μ' h1 h2 => hQ .normal e' H' a' w' h1 ⟨K', μ', h2⟩)
    simp only [List.length_range] at hk
    obtain ⟨s, s1, s2⟩ := g2 k ops[k] (by simp [hk])
    exact ⟨ops[k], s, by simp [hk], s1, s2⟩
  | .region id ops draw, .dreg perm L, hk, e, H, a, w, Qs, Q, hst, hs, hQ => by
    simp only [chkC, Bool.and_eq_true] at hk
    obtain ⟨⟨rfl, k1⟩, k2⟩ := hk
    obtain ⟨K, μ, hst⟩ := hst
    simp only [csem] at hs
    refine wp_region_draw fun t => ?_
    obtain ⟨ys, y1, y2, y3⟩ := schedule_comes hm k1 t
    rw [y1]
    have hlive : Live e := fun t k o ht => (hst.slot t _ ht).2
    have hs' := reorder (S := Spec P ν) (fun g hs H Q Q' h h' => Spec_mono h h') y2 hlive hs
    have hlen : perm.length = ops.size := by
      simp only [drawOk, Bool.and_eq_true, decide_eq_true_eq] at k1
      exact k1.1.1.1.1
    refine rsem_sound hB (ys.map fun y => perm[y]!) (ys.map fun i => (L[i]!).o) (by simp) (fun k hk => ?_) hst.draw hs' (fun e' H' a' w' K' μ' h1 h2 => hQ .normal e' H' a' w' h1 ⟨K', μ', h2⟩)
    simp only [List.length_map] at hk
    have hy := y3 ys[k] (List.getElem_mem hk)
    obtain ⟨o, o1, o2, o3⟩ := chkD_get k2 ys[k] (by omega)
    refine ⟨o, (L[ys[k]]!).o, ?_, by simp [hk], o3⟩
    have : (ys.map fun y => perm[y]!)[k]! = perm[ys[k]]! := by simp [hk]
    rw [this]; exact o1
  | .seq c1 c2, .seq s1 s2, hk, e, H, a, w, Qs, Q, hst, hs, hQ => by
    simp only [chkC, Bool.and_eq_true] at hk
    simp only [csem] at hs
    refine wp_seq (csem_sound hB hm c1 s1 hk.1 hst hs ?_)
    intro ex e' H' a' w' hq hst'
    cases ex with
    | normal =>
      obtain ⟨e1, H1, he, hH, hq⟩ := hq
      obtain ⟨K', μ', hst'⟩ := hst'
      refine csem_sound hB hm c2 s2 hk.2 ⟨K', μ', ?_⟩ hq hQ
      rcases he with rfl | he
      · exact hst'.sub hH
      · exact (hst'.le he).sub hH
    | exit i => exact hQ (.exit i) _ _ _ _ hq hst'
    | ret => exact hQ .ret _ _ _ _ hq hst'
  | .cond c c1 c2, .cond c' s1 s2, hk, e, H, a, w, Qs, Q, hst, hs, hQ => by
    simp only [chkC, Bool.and_eq_true] at hk
    simp only [csem] at hs
    split at hs
    · rename_i t ht
      obtain ⟨K, μ, hst⟩ := hst
      have e1 := hv_sound hst hk.1.1 ht
      simp only [rep] at e1
      cases t with
      | true => exact wp_cond_true e1 (csem_sound hB hm c1 s1 hk.1.2 ⟨K, μ, hst⟩ (hs.1 rfl) hQ)
      | false => exact wp_cond_false e1 (csem_sound hB hm c2 s2 hk.2 ⟨K, μ, hst⟩ (hs.2 rfl) hQ)
    · exact hs.elim
  | .block i c1, .block j s1, hk, e, H, a, w, Qs, Q, hst, hs, hQ => by
    simp only [chkC, Bool.and_eq_true, decide_eq_true_eq] at hk
    obtain ⟨rfl, hk⟩ := hk
    simp only [csem] at hs
    refine wp_block (csem_sound hB hm c1 s1 hk hst hs ?_)
    intro ex e' H' a' w' hq hst'
    cases ex with
    | normal => exact hQ .normal _ _ _ _ hq hst'
    | exit k =>
      simp only [SEx.to, Exit.inBlock]
      simp only at hq
      split at hq
      · rename_i h; rw [if_pos h]; exact hQ .normal _ _ _ _ hq hst'
      · rename_i h; rw [if_neg h]; exact hQ (.exit k) _ _ _ _ hq hst'
    | ret => exact hQ .ret _ _ _ _ hq hst'
  | .loop c1, .loop s1, hk, e, H, a, w, Qs, Q, hst, hs, hQ => by
    simp only [chkC] at hk
    simp only [csem] at hs
    obtain ⟨I, ⟨n, e1, H1, he, hH, hI⟩, hround⟩ := hs
    obtain ⟨K, μ, hst⟩ := hst
    refine wp_loop_n (fun n a w => ∃ e H, I n e H ∧ St' ν w0 K0 H0 N e H a w) (n := n) ⟨e1, H1, hI, K, μ, (hst.le he).sub hH⟩ ?_
    rintro n a w ⟨e2, H2, hI2, hst2⟩
    refine csem_sound hB hm c1 s1 hk hst2 (hround n e2 H2 hI2) ?_
    intro ex e' H' a' w' hq hst'
    cases ex with
    | normal =>
      obtain ⟨m, e3, H3, hm, he3, hH3, hI3⟩ := hq
      obtain ⟨K', μ', hst'⟩ := hst'
      exact ⟨m, hm, e3, H3, hI3, K', μ', (hst'.le he3).sub hH3⟩
    | exit i => exact hQ (.exit i) _ _ _ _ hq hst'
    | ret => exact hQ .ret _ _ _ _ hq hst'
  | .exit i, .exit j, hk, e, H, a, w, Qs, Q, hst, hs, hQ => by
    simp only [chkC, decide_eq_true_eq] at hk
    subst hk
    exact wp_exit (hQ (.exit i) _ _ _ _ hs hst)
  | .ret, .ret, _, e, H, a, w, Qs, Q, hst, hs, hQ => wp_ret (hQ .ret _ _ _ _ hs hst)
  | .skip, .reg _, hk, _, _, _, _, _, _, _, _, _ | .skip, .dreg _ _, hk, _, _, _, _, _, _, _, _, _ | .skip, .seq _ _, hk, _, _, _, _, _, _, _, _, _ | .skip, .cond _ _ _, hk, _, _, _, _, _, _, _, _, _ | .skip, .block _ _, hk, _, _, _, _, _, _, _, _, _
  | .skip, .loop _, hk, _, _, _, _, _, _, _, _, _ | .skip, .exit _, hk, _, _, _, _, _, _, _, _, _ | .skip, .ret, hk, _, _, _, _, _, _, _, _, _ => by simp [chkC] at hk
  | .region _ _ _, .skip, hk, _, _, _, _, _, _, _, _, _ | .region _ _ _, .seq _ _, hk, _, _, _, _, _, _, _, _, _ | .region _ _ _, .cond _ _ _, hk, _, _, _, _, _, _, _, _, _ | .region _ _ _, .block _ _, hk, _, _, _, _, _, _, _, _, _
  | .region _ _ _, .loop _, hk, _, _, _, _, _, _, _, _, _ | .region _ _ _, .exit _, hk, _, _, _, _, _, _, _, _, _ | .region _ _ _, .ret, hk, _, _, _, _, _, _, _, _, _ => by simp [chkC] at hk
  | .seq _ _, .skip, hk, _, _, _, _, _, _, _, _, _ | .seq _ _, .reg _, hk, _, _, _, _, _, _, _, _, _ | .seq _ _, .dreg _ _, hk, _, _, _, _, _, _, _, _, _ | .seq _ _, .cond _ _ _, hk, _, _, _, _, _, _, _, _, _ | .seq _ _, .block _ _, hk, _, _, _, _, _, _, _, _, _
  | .seq _ _, .loop _, hk, _, _, _, _, _, _, _, _, _ | .seq _ _, .exit _, hk, _, _, _, _, _, _, _, _, _ | .seq _ _, .ret, hk, _, _, _, _, _, _, _, _, _ => by simp [chkC] at hk
  | .cond _ _ _, .skip, hk, _, _, _, _, _, _, _, _, _ | .cond _ _ _, .reg _, hk, _, _, _, _, _, _, _, _, _ | .cond _ _ _, .dreg _ _, hk, _, _, _, _, _, _, _, _, _ | .cond _ _ _, .seq _ _, hk, _, _, _, _, _, _, _, _, _ | .cond _ _ _, .block _ _, hk, _, _, _, _, _, _, _, _, _
  | .cond _ _ _, .loop _, hk, _, _, _, _, _, _, _, _, _ | .cond _ _ _, .exit _, hk, _, _, _, _, _, _, _, _, _ | .cond _ _ _, .ret, hk, _, _, _, _, _, _, _, _, _ => by simp [chkC] at hk
  | .block _ _, .skip, hk, _, _, _, _, _, _, _, _, _ | .block _ _, .reg _, hk, _, _, _, _, _, _, _, _, _ | .block _ _, .dreg _ _, hk, _, _, _, _, _, _, _, _, _ | .block _ _, .seq _ _, hk, _, _, _, _, _, _, _, _, _ | .block _ _, .cond _ _ _, hk, _, _, _, _, _, _, _, _, _
  | .block _ _, .loop _, hk, _, _, _, _, _, _, _, _, _ | .block _ _, .exit _, hk, _, _, _, _, _, _, _, _, _ | .block _ _, .ret, hk, _, _, _, _, _, _, _, _, _ => by simp [chkC] at hk
  | .loop _, .skip, hk, _, _, _, _, _, _, _, _, _ | .loop _, .reg _, hk, _, _, _, _, _, _, _, _, _ | .loop _, .dreg _ _, hk, _, _, _, _, _, _, _, _, _ | .loop _, .seq _ _, hk, _, _, _, _, _, _, _, _, _ | .loop _, .cond _ _ _, hk, _, _, _, _, _, _, _, _, _
  | .loop _, .block _ _, hk, _, _, _, _, _, _, _, _, _ | .loop _, .exit _, hk, _, _, _, _, _, _, _, _, _ | .loop _, .ret, hk, _, _, _, _, _, _, _, _, _ => by simp [chkC] at hk
  | .exit _, .skip, hk, _, _, _, _, _, _, _, _, _ | .exit _, .reg _, hk, _, _, _, _, _, _, _, _, _ | .exit _, .dreg _ _, hk, _, _, _, _, _, _, _, _, _ | .exit _, .seq _ _, hk, _, _, _, _, _, _, _, _, _ | .exit _, .cond _ _ _, hk, _, _, _, _, _, _, _, _, _
  | .exit _, .block _ _, hk, _, _, _, _, _, _, _, _, _ | .exit _, .loop _, hk, _, _, _, _, _, _, _, _, _ | .exit _, .ret, hk, _, _, _, _, _, _, _, _, _ => by simp [chkC] at hk
  | .ret, .skip, hk, _, _, _, _, _, _, _, _, _ | .ret, .reg _, hk, _, _, _, _, _, _, _, _, _ | .ret, .dreg _ _, hk, _, _, _, _, _, _, _, _, _ | .ret, .seq _ _, hk, _, _, _, _, _, _, _, _, _ | .ret, .cond _ _ _, hk, _, _, _, _, _, _, _, _, _
  | .ret, .block _ _, hk, _, _, _, _, _, _, _, _, _ | .ret, .loop _, hk, _, _, _, _, _, _, _, _, _ | .ret, .exit _, hk, _, _, _, _, _, _, _, _, _ => by simp [chkC] at hk
  | .rangeFunc _ _ _ _, s, hk, _, _, _, _, _, _, _, _, _ | .scope _, s, hk, _, _, _, _, _, _, _, _, _ | .label _, s, hk, _, _, _, _, _, _, _, _, _ | .goto _, s, hk, _, _, _, _, _, _, _, _, _ | .refuse _, s, hk, _, _, _, _, _, _, _, _, _ => by
    cases s <;> simp [chkC] at hk

end
end Sm
