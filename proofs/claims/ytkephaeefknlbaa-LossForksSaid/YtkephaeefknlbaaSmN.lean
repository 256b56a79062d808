/-
  A layer of one's own: text N.
-/
import Derived.Test.YtkephaeefknlbaaSmK
set_option linter.unusedVariables false
set_option linter.unusedSimpArgs false
set_option linter.unnecessarySimpa false
namespace Sm
open Go

def Bodies (P : Program) (ν : Nat → Option Nat) : Prop := ∀ n g, ν n = some g → ∃ f, P.funcs[n]? = some f ∧ f.body.isNone = false ∧ (f.name == "runtime.NumGoroutine") = false

section
variable {P : Program} {ν : Nat → Option Nat} {w0 : World} {K0 : Nat → Nat} {H0 : Heap} {N : Nat} {e : Env} {H : Heap} {a : Act} {w : World} {K μ : Nat → Nat} {o : Oper}

theorem st_calm (hst : St ν w0 K0 H0 N e H a w K μ) {x : EV} (h : Calm P ν K μ e a w o x) {Kc : EV → Env → Heap → Prop} (hk : Kc x e H) {next : Act → World → Prop} {Q} (hK : Next' ν w0 K0 H0 N a o.dst Kc next) :
    o.upon P a next Q ((execOp a.eval o).run P w) := by
  obtain ⟨u, h1, h2, h3⟩ := h
  rw [h1]
  apply upon_value
  exact hK _ _ _ hk _ _ _ _ hst h2 h3

theorem calm_of {s : SOp} {Kc : EV → Env → Heap → Prop} {x : Option EV} (hx : s.ev e H = x) (hs : match s.ev e H with | some x => Kc x e H | none => False) : ∃ z, s.ev e H = some z ∧ Kc z e H := by
  split at hs
  · rename_i z hz; exact ⟨z, hz, hs⟩
  · exact hs.elim

theorem step_sound (hB : Bodies P ν) (hst : St ν w0 K0 H0 N e H a w K μ) {s : SOp} (hk : chkOp P ν o s = true) {Kc : EV → Env → Heap → Prop} (hs : s.step (Spec P ν) e H Kc)
    {next : Act → World → Prop} {Q} (hK : Next' ν w0 K0 H0 N a o.dst Kc next) : o.upon P a next Q ((execOp a.eval o).run P w) := by
  unfold chkOp at hk
  split at hk
  · rename_i x y ho
    obtain ⟨z, h1, h2⟩ := calm_of rfl hs
    exact st_calm hst (ev_mv hst (.inl ho) hk h1) h2 hK
  · rename_i x y ho
    obtain ⟨z, h1, h2⟩ := calm_of rfl hs
    exact st_calm hst (ev_mv hst (.inr ho) hk h1) h2 hK
  · rename_i ho
    obtain ⟨z, h1, h2⟩ := calm_of rfl hs
    simp only [Bool.and_eq_true] at hk
    exact st_calm hst (ev_pick hst ho hk.1.1 hk.1.2 hk.2 h1) h2 hK
  · rename_i ho
    obtain ⟨z, h1, h2⟩ := calm_of rfl hs
    simp only [Bool.and_eq_true, decide_eq_true_eq] at hk
    obtain ⟨⟨rfl, k1⟩, k2⟩ := hk
    exact st_calm hst (ev_int hst ho k1 k2 h1) h2 hK
  · rename_i ho
    obtain ⟨z, h1, h2⟩ := calm_of rfl hs
    simp only [Bool.and_eq_true, decide_eq_true_eq] at hk
    obtain ⟨⟨rfl, k1⟩, k2⟩ := hk
    exact st_calm hst (ev_str hst ho k1 k2 h1) h2 hK
  · rename_i ho
    obtain ⟨z, h1, h2⟩ := calm_of rfl hs
    simp only [Bool.and_eq_true] at hk
    exact st_calm hst (ev_eq (ne := false) hst (by simpa using ho) hk.1.1 hk.1.2 hk.2 h1) h2 hK
  · rename_i ho
    obtain ⟨z, h1, h2⟩ := calm_of rfl hs
    simp only [Bool.and_eq_true] at hk
    exact st_calm hst (ev_eq (ne := true) hst (by simpa using ho) hk.1.1 hk.1.2 hk.2 h1) h2 hK
  · rename_i ho
    obtain ⟨z, h1, h2⟩ := calm_of rfl hs
    exact st_calm hst (ev_not hst ho hk h1) h2 hK
  · rename_i ho
    obtain ⟨z, h1, h2⟩ := calm_of rfl hs
    exact st_calm hst (ev_neg hst ho hk h1) h2 hK
  · rename_i ho
    obtain ⟨z, h1, h2⟩ := calm_of rfl hs
    simp only [Bool.and_eq_true, decide_eq_true_eq] at hk
    exact st_calm hst (ev_conv hst ho hk.1.1 hk.1.2 hk.2 h1) h2 hK
  · rename_i ho
    obtain ⟨z, h1, h2⟩ := calm_of rfl hs
    simp only [Bool.and_eq_true] at hk
    exact st_calm hst (ev_idc hst ho hk.1.1 hk.1.2 hk.2 h1) h2 hK
  · rename_i ho
    split at hk
    · rename_i z hz
      exact st_alloc hst ho hz hk hs hK
    · cases hk
  · rename_i ho
    exact st_box hst ho hk hs hK
  · rename_i ho
    obtain ⟨z, h1, h2⟩ := calm_of rfl hs
    simp only [Bool.and_eq_true] at hk
    obtain ⟨⟨k1, k2⟩, k3⟩ := hk
    split at k1
    · rename_i zv hzv
      split at k2
      · rename_i fs hfs
        exact st_calm hst (ev_build hst ho hzv k1 hfs k2 k3 h1) h2 hK
      · cases k2
    · cases k1
  · rename_i ho
    split at hk
    · rename_i el hel
      simp only [Bool.and_eq_true, decide_eq_true_eq] at hk
      obtain ⟨⟨⟨⟨⟨k1, k2⟩, k3⟩, k4⟩, k5⟩, k6⟩ := hk
      split at k5
      · rename_i z hz
        simp only [decide_eq_true_eq] at k5
        exact st_bslice hst ho hel k1 k2 k3 k4 hz k5 k6 hs hK
      · cases k5
    · cases hk
  · rename_i ho
    obtain ⟨z, h1, h2⟩ := calm_of rfl hs
    simp only [Bool.and_eq_true, decide_eq_true_eq] at hk
    exact st_calm hst (ev_load hst ho hk.1.1.1 hk.1.1.2 hk.1.2 hk.2 h1) h2 hK
  · rename_i ho
    simp only [Bool.and_eq_true, decide_eq_true_eq] at hk
    exact st_store hst ho hk.1.1 hk.1.2 hk.2 hs hK
  · rename_i ho
    obtain ⟨z, h1, h2⟩ := calm_of rfl hs
    exact st_calm hst (ev_nilc hst ho hk h1) h2 hK
  · rename_i ho
    obtain ⟨z, h1, h2⟩ := calm_of rfl hs
    simp only [Bool.and_eq_true] at hk
    obtain ⟨k1, k2⟩ := hk
    split at k1
    · rename_i fd hfd
      simp only [Bool.and_eq_true, decide_eq_true_eq] at k1
      obtain ⟨k3, k4⟩ := k1
      split at k4
      · rename_i n hn
        exact st_calm hst (ev_fld hst ho hfd k3 hn k2 h1) h2 hK
      · cases k4
    · cases k1
  · rename_i ho
    obtain ⟨z, h1, h2⟩ := calm_of rfl hs
    simp only [Bool.and_eq_true] at hk
    obtain ⟨k1, k2⟩ := hk
    split at k1
    · rename_i fd hfd
      simp only [Bool.and_eq_true, decide_eq_true_eq] at k1
      obtain ⟨⟨⟨k3, k4⟩, k5⟩, k6⟩ := k1
      exact st_calm hst (ev_field hst ho hfd k3 k4 k5 (by simpa using k6) k2 h1) h2 hK
    · cases k1
  · rename_i ho
    obtain ⟨z, h1, h2⟩ := calm_of rfl hs
    simp only [Bool.and_eq_true] at hk
    obtain ⟨⟨k1, k2⟩, k3⟩ := hk
    split at k1
    · rename_i el hel
      exact st_calm hst (ev_idx hst ho hel (by simpa using k1) k2 k3 h1) h2 hK
    · cases k1
  · rename_i ho
    obtain ⟨z, h1, h2⟩ := calm_of rfl hs
    simp only [Bool.and_eq_true] at hk
    obtain ⟨⟨k1, k2⟩, k3⟩ := hk
    split at k1
    · rename_i n el hel
      simp only [Bool.and_eq_true, decide_eq_true_eq] at k1
      obtain ⟨rfl, k4⟩ := k1
      exact st_calm hst (ev_aidx hst ho hel k4 k2 k3 h1) h2 hK
    · cases k1
  · rename_i ho
    obtain ⟨z, h1, h2⟩ := calm_of rfl hs
    simp only [Bool.and_eq_true] at hk
    exact st_calm hst (ev_sidx hst ho hk.1.1 hk.1.2 hk.2 h1) h2 hK
  · rename_i ho
    obtain ⟨z, h1, h2⟩ := calm_of rfl hs
    split at hk
    · rename_i hc ha ht
      simp only [Bool.and_eq_true] at hk
      exact st_calm hst (ev_len hst ho hc ha ht hk.1 hk.2 h1) h2 hK
    · cases hk
  · rename_i ho
    obtain ⟨z, h1, h2⟩ := calm_of rfl hs
    split at hk
    · rename_i hc ha ht
      simp only [Bool.and_eq_true] at hk
      exact st_calm hst (ev_slen hst ho hc ha ht hk.1 hk.2 h1) h2 hK
    · cases hk
  · rename_i ho
    split at hk
    · rename_i hc ha ht
      simp only [Bool.and_eq_true, decide_eq_true_eq] at hk
      obtain ⟨⟨⟨k1, rfl⟩, k3⟩, k4⟩ := hk
      split at k1
      · rename_i el hel
        split at k1
        · rename_i i hi
          simp only [Bool.and_eq_true, decide_eq_true_eq] at k1
          obtain ⟨⟨⟨⟨m1, m2⟩, m3⟩, m4⟩, m5⟩ := k1
          split at m5
          · rename_i z hz
            exact st_app hst ho hc ha ht hel hi m1 m2 m3 m4 hz (by simpa using m5) k3 k4 hs hK
          · cases m5
        · cases k1
      · cases k1
    · cases hk
  · rename_i ho
    obtain ⟨z, h1, h2⟩ := calm_of rfl hs
    split at hk
    · rename_i hc ha
      simp only [Bool.and_eq_true] at hk
      obtain ⟨⟨rfl, k1⟩, k2⟩ := hk
      exact st_calm hst (ev_mm hst ho (by simpa using hc) ha k1 k2 h1) h2 hK
    · rename_i hc ha
      simp only [Bool.and_eq_true, Bool.not_eq_true'] at hk
      obtain ⟨⟨rfl, k1⟩, k2⟩ := hk
      exact st_calm hst (ev_mm hst ho (by simpa using hc) ha k1 k2 h1) h2 hK
    · cases hk
  · rename_i c g ys ho
    split at hk
    · rename_i f hc
      simp only [Bool.and_eq_true, decide_eq_true_eq] at hk
      simp only [SOp.step] at hs
      split at hs
      · rename_i zs hz
        refine st_call hst hB (n := f) (us := c.args.map a.eval) ?_ hk.1 (by simpa using hvs_sound hst hk.2 hz) hs hK
        simp [execOp, ho, resolve, hc, Act.eval, Deferred.ofValue, invoke]
      · exact hs.elim
    · cases hk
  · rename_i c y ys ho
    split at hk
    · rename_i x hc
      simp only [Bool.and_eq_true] at hk
      simp only [SOp.step] at hs
      split at hs
      · rename_i g caps zs hz1 hz2
        have e1 := hv_sound hst hk.1 hz1
        simp only [rep] at e1
        obtain ⟨n, us, g1, g2, g3⟩ := e1
        refine st_call hst hB (n := n) (us := c.args.map a.eval ++ us.toArray) ?_ g1 (by simpa using repL_append (hvs_sound hst hk.2 hz2) g3) hs hK
        simp [execOp, ho, resolve, hc, g2, Deferred.ofValue, invoke]
      · exact hs.elim
    · cases hk
  · rename_i ho
    obtain ⟨z, h1, h2⟩ := calm_of rfl hs
    simp only [Bool.and_eq_true, decide_eq_true_eq] at hk
    exact st_calm hst (ev_mkfn hst ho hk.1.1 hk.1.2 hk.2 h1) h2 hK
  · rename_i ho
    obtain ⟨z, h1, h2⟩ := calm_of rfl hs
    simp only [Bool.and_eq_true, decide_eq_true_eq] at hk
    obtain ⟨rfl, k1⟩ := hk
    exact st_calm hst (ev_ext hst ho k1 h1) h2 hK
  · rename_i ho
    obtain ⟨z, h1, h2⟩ := calm_of rfl hs
    simp only [Bool.and_eq_true] at hk
    obtain ⟨⟨⟨⟨⟨k1, k2⟩, k3⟩, k4⟩, k5⟩, k6⟩ := hk
    split at k1
    · rename_i el hel
      exact st_calm hst (ev_slc hst ho hel (by simpa using k1) k2 k3 k4 k5 k6 h1) h2 hK
    · cases k1
  · rename_i ho
    obtain ⟨z, h1, h2⟩ := calm_of rfl hs
    simp only [Bool.and_eq_true] at hk
    exact st_calm hst (ev_ssl hst ho hk.1.1.1 hk.1.1.2 hk.1.2 hk.2 h1) h2 hK
  · exact st_nd hst hk hs hK
  · cases hk

/-- One operation of a region against its resolved form. -/
def chkO (P : Program) (ν : Nat → Option Nat) (N : Nat) (ops : Array Oper) (o : Oper) (s : SOper) : Bool :=
  chkOp P ν o s.op && decide (o.dst = s.dst) && (match o.dst with
    | some d => decide (d < N)
    | none => true) && (match o.guard, s.guard with
    | none, none => true
    | some (j, b), some (t, b') => decide (b = b') && decide ((ops[j]?).bind (·.dst) = some t) && decide (t < N)
    | _, _ => false)

theorem yielded_eq {ops : Array Oper} {tmps : Array Value} {j t : Nat} (h : (ops[j]?).bind (·.dst) = some t) (ht : t < tmps.size) : yielded ops tmps j = match tmps.getD t undef with | .bool b => some b | _ => none := by
  simp only [yielded, h, Option.bind_some, Array.getElem?_eq_getElem ht, Array.getD_eq_getD_getElem?, Option.getD_some]
  cases tmps[t] <;> rfl

theorem rsem_sound (hB : Bodies P ν) {ops : Array Oper} {Q : Exit → Act → World → Prop} {Kc : Env → Heap → Prop} : ∀ (l : List Nat) (ss : List SOper) {e : Env} {H : Heap} {a : Act} {w : World} {K μ : Nat → Nat},
    l.length = ss.length → (∀ k, k < l.length → ∃ o s, ops[l[k]!]? = some o ∧ ss[k]? = some s ∧ chkO P ν N ops o s = true) →
    St ν w0 K0 H0 N e H a w K μ → rsem (Spec P ν) ss e H Kc → (∀ e' H' a' w' K' μ', Kc e' H' → St ν w0 K0 H0 N e' H' a' w' K' μ' → Q .normal a' w') → wpOps P ops Q l a w
  | [], [], e, H, a, w, K, μ, _, _, hst, hs, hQ => hQ _ _ _ _ _ _ hs hst
  | [], _ :: _, _, _, _, _, _, _, hl, _, _, _, _ => by simp at hl
  | _ :: _, [], _, _, _, _, _, _, hl, _, _, _, _ => by simp at hl
  | i :: l, s :: ss, e, H, a, w, K, μ, hl, hc, hst, hs, hQ => by
    obtain ⟨o, s', h1, h2, h3⟩ := hc 0 (by simp)
    simp only [List.getElem!_cons_zero, List.getElem?_cons_zero, Option.some.injEq] at h1 h2
    subst h2
    have hrest : ∀ k, k < l.length → ∃ o s, ops[l[k]!]? = some o ∧ ss[k]? = some s ∧ chkO P ν N ops o s = true := by
      intro k hk
      obtain ⟨o', s'', g1, g2, g3⟩ := hc (k + 1) (by simpa using hk)
      exact ⟨o', s'', by simpa using g1, by simpa using g2, g3⟩
    have hl' : l.length = ss.length := by simpa using hl
    simp only [chkO, Bool.and_eq_true, decide_eq_true_eq] at h3
    obtain ⟨⟨⟨c1, c2⟩, c3⟩, c4⟩ := h3
    have hd : ∀ t, s.dst = some t → t < N := by
      intro t ht
      rw [← c2] at ht
      simp only [ht, decide_eq_true_eq] at c3
      exact c3
    have next_ok : ∀ {e1 : Env} {a1 : Act}, Next' ν w0 K0 H0 N a1 o.dst (fun x e' H' => rsem (Spec P ν) ss (e'.put s.dst x) H' Kc) (wpOps P ops Q l) := by
      intro e1 a1 x e' H' hk u w' K' μ' hst' hr hlv
      rw [c2]
      exact rsem_sound hB l ss hl' hrest (hst'.put hd hr hlv) hk hQ
    simp only [wpOps, h1]
    simp only [rsem, rsem1] at hs
    cases hgo : o.guard with
    | none =>
      cases hgs : s.guard with
      | some p => simp [hgo, hgs] at c4
      | none =>
        simp only [hgs] at hs
        rw [if_pos (by simp [Region.wanted, hgo])]
        left
        exact step_sound hB hst c1 hs (next_ok (e1 := e))
    | some p =>
      obtain ⟨j, b⟩ := p
      cases hgs : s.guard with
      | none => simp [hgo, hgs] at c4
      | some q =>
        obtain ⟨t, b'⟩ := q
        simp only [hgo, hgs, Bool.and_eq_true, decide_eq_true_eq] at c4
        obtain ⟨⟨rfl, c5⟩, c6⟩ := c4
        have hy := yielded_eq c5 (tmps := a.tmps) (by rw [hst.sz]; exact c6)
        have hwd : Region.wanted o (yielded ops a.tmps) = (yielded ops a.tmps j == some b) := by simp [Region.wanted, hgo]
        simp only [hgs] at hs
        split at hs
        · rename_i bv hget
          have e1 := (hst.slot t _ hget).1
          simp only [repE, rep] at e1
          rw [e1] at hy
          simp only at hy
          have hput : ∀ c, bv = c → St ν w0 K0 H0 N (e.put (some t) (.h (.v (.bool c)))) H a w K μ := by
            intro c hcv; subst hcv
            rw [put_same hget]; exact hst
          by_cases hbv : bv = b
          · rw [if_pos (by rw [hwd, hy, hbv]; simp)]
            left
            exact step_sound hB (hput b hbv) c1 (hs.1 hbv) (next_ok (e1 := e))
          · have hbn : bv = !b := by cases bv <;> cases b <;> simp_all
            rw [if_neg (by rw [hwd, hy, hbn]; cases b <;> simp)]
            rw [c2]
            exact rsem_sound hB l ss hl' hrest ((hput (!b) hbn).put (x := .h .undef) (u := undef) hd (by simp [repE, rep, HV.undef]) trivial) (hs.2 hbn) hQ
        · rename_i us hget
          have e1 := (hst.slot t _ hget).1
          simp only [repE, rep] at e1
          rw [e1] at hy
          simp only at hy
          rw [if_neg (by rw [hwd, hy]; simp)]
          rw [c2]
          exact rsem_sound hB l ss hl' hrest (hst.put (x := .h .undef) (u := undef) hd (by simp [repE, rep, HV.undef]) trivial) hs hQ
        · exact hs.elim

end
end Sm
