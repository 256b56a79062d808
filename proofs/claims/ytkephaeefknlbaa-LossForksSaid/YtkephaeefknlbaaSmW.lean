/-
  A layer of one's own: text W.
-/
import Derived.Test.YtkephaeefknlbaaSmV
set_option linter.unusedVariables false
set_option linter.unusedSimpArgs false
set_option linter.unnecessarySimpa false
namespace Sm
open Go

def chkRes (P : Program) (N : Nat) : List ResultVar → List SRes → Bool
  | [], [] => true
  | .tmp t :: rs, .t s :: ss => decide (t = s) && decide (s < N) && chkRes P N rs ss
  | .cell t T :: rs, .cell s agg n :: ss => decide (t = s) && decide (szOf P T = some n) && decide (aggOf P T = some agg) && (agg || decide (n = 1)) && chkRes P N rs ss
  | _, _ => false

/-- A function against its resolved form. -/
def chkF (P : Program) (ν : Nat → Option Nat) (f : Func) (s : SF) : Bool :=
  (match f.body with
    | some c => chkC P ν s.N c s.body
    | none => false) && decide (f.ntmps = s.N) && decide (s.np ≤ s.N) && chkRes P s.N f.results.toList s.res && !(f.name == "runtime.NumGoroutine")

/-- A program, with the numbers of ours that its functions have; each of these is so resolved. -/
structure Linked (code : Nat → SF) where
  P : Program
  ν : Nat → Option Nat
  mixed : P.follows .mixedOrders = true
  link : ∀ n g, ν n = some g → ∃ f, P.funcs[n]? = some f ∧ chkF P ν f (code g) = true

theorem Linked.bodies {code : Nat → SF} (L : Linked code) : Bodies L.P L.ν := by
  intro n g hn
  obtain ⟨f, hf, hk⟩ := L.link n g hn
  simp only [chkF, Bool.and_eq_true, Bool.not_eq_true'] at hk
  refine ⟨f, hf, ?_, hk.2⟩
  have := hk.1.1.1.1
  cases hb : f.body with
  | none => rw [hb] at this; cases this
  | some c => rfl

section
variable {P : Program} {ν : Nat → Option Nat} {w0 : World} {K0 : Nat → Nat} {H0 : Heap} {N : Nat} {e : Env} {H : Heap} {a : Act} {w : World} {K μ : Nat → Nat}

theorem run_results (hst : St ν w0 K0 H0 N e H a w K μ) : ∀ (rs : List ResultVar) (ss : List SRes), chkRes P N rs ss = true → ∀ {hs : List HV}, resList e H ss = some hs →
    ∃ us, (rs.mapM fun r => (match r with | .tmp t => pure (a.tmps.getD t undef) | .cell ad t => do loadVar t (← asAddr (a.tmps.getD ad undef)) : Sem Value)).run P w = .ok us w ∧ repL ν K w hs us
  | [], [], _, hs, h => by
    simp only [resList, Option.some.injEq] at h; subst h
    exact ⟨[], by simp, by simp [repL]⟩
  | .tmp t :: rs, .t s :: ss, hk, hs, h => by
    simp only [chkRes, Bool.and_eq_true, decide_eq_true_eq] at hk
    obtain ⟨⟨rfl, k1⟩, k2⟩ := hk
    simp only [resList] at h
    split at h
    · rename_i h1 hs1 e1 e2
      simp only [Option.some.injEq] at h; subst h
      obtain ⟨us, u1, u2⟩ := run_results hst rs ss k2 e2
      have hv := hv_sound hst (x := .tmp t) (y := .s t) (by simp [okOpd]) e1
      refine ⟨a.tmps.getD t undef :: us, ?_, ⟨_, _, rfl, hv, u2⟩⟩
      simp only [List.mapM_cons, Sem.run_bind, Sem.run_pure, Result.andThen_ok, u1]
    · cases h
  | .cell t T :: rs, .cell s agg n :: ss, hk, hs, h => by
    simp only [chkRes, Bool.and_eq_true, decide_eq_true_eq] at hk
    obtain ⟨⟨⟨⟨rfl, k1⟩, k2⟩, k3⟩, k4⟩ := hk
    simp only [resList] at h
    split at h
    · rename_i h1 hs1 e1 e2
      simp only [Option.some.injEq] at h; subst h
      obtain ⟨us, u1, u2⟩ := run_results hst rs ss k4 e2
      simp only [SRes.val] at e1
      split at e1
      · rename_i hh hl
        simp only [Option.some.injEq] at e1; subst e1
        obtain ⟨u, c1, c2, c3⟩ := ev_load (P := P) (o := { dst := none, op := .load T (.tmp t), type := 0, pos := "", after := #[], guard := none }) hst rfl k1 k2 k3 (x := .tmp t) (x' := .s t) (by simp [okOpd]) hl
        have hload : (do loadVar T (← asAddr (a.tmps.getD t undef)) : Sem Value).run P w = .ok u w := by
          have c1' : ((Instr.loadAt T (a.tmps.getD t undef)).run P w).andThen (fun v w' => Result.ok (Next.value v) w') = .ok (.value u) w := by
            simpa [execOp, Act.eval] using c1
          generalize a.tmps.getD t undef = pv at c1' ⊢
          cases pv
          case pointer ad =>
            cases ad with
            | none => simp [Instr.loadAt, Instr.sureAddr] at c1'
            | some ad =>
              have hsame : (Instr.loadAt T (.pointer (some ad))).run P w = (loadVar T ad).run P w := by simp [Instr.loadAt, Instr.sureAddr]
              rw [hsame] at c1'
              have hsame2 : (do loadVar T (← asAddr (.pointer (some ad))) : Sem Value).run P w = (loadVar T ad).run P w := by simp [asAddr]
              rw [hsame2]
              cases hr : (loadVar T ad).run P w with
              | ok v w' => rw [hr] at c1'; simp at c1'; rw [c1'.1, c1'.2]
              | halt x w' => rw [hr] at c1'; simp at c1'
          all_goals simp [Instr.loadAt, Instr.sureAddr] at c1'
        refine ⟨u :: us, ?_, ⟨_, _, rfl, c2, u2⟩⟩
        simp only [List.mapM_cons, Sem.run_bind] at hload ⊢
        simp only [hload, Result.andThen_ok, u1, Sem.run_pure]
      · cases e1
    · cases h
  | [], _ :: _, hk, _, _ => by simp [chkRes] at hk
  | .tmp _ :: _, [], hk, _, _ => by simp [chkRes] at hk
  | .cell _ _ :: _, [], hk, _, _ => by simp [chkRes] at hk
  | .tmp _ :: _, .cell _ _ _ :: _, hk, _, _ => by simp [chkRes] at hk
  | .cell _ _ :: _, .t _ :: _, hk, _, _ => by simp [chkRes] at hk

theorem run_results_fn (hst : St ν w0 K0 H0 N e H a w K μ) {f : Func} {ss : List SRes} (hk : chkRes P N f.results.toList ss = true) {hs : List HV} (h : resList e H ss = some hs) :
    ∃ u, (results f a.tmps).run P w = .ok u w ∧ rep ν K w (tupled hs) u := by
  obtain ⟨us, u1, u2⟩ := run_results (P := P) hst f.results.toList ss hk h
  have hlen := repL_length u2
  have harr : (f.results.mapM fun r => (match r with | .tmp t => pure (a.tmps.getD t undef) | .cell ad t => do loadVar t (← asAddr (a.tmps.getD ad undef)) : Sem Value)).run P w = .ok us.toArray w := by
    rw [Array.mapM_eq_mapM_toList]
    simp only [Sem.run_map, u1, Result.andThen_ok]
  have hres : (results f a.tmps).run P w = .ok (if h : us.toArray.size = 1 then us.toArray[0] else .tuple us.toArray) w := by
    have hfun : results f a.tmps = (f.results.mapM fun r => (match r with | .tmp t => pure (a.tmps.getD t undef) | .cell ad t => do loadVar t (← asAddr (a.tmps.getD ad undef)) : Sem Value)) >>= fun vs => pure (if h : vs.size = 1 then vs[0] else .tuple vs) := by
      unfold results
      congr 2
    rw [hfun, Sem.run_bind, harr]
    rfl
  rw [hres]
  match hs, us, hlen, u2 with
  | [], [], _, u2 => exact ⟨_, rfl, by simp [tupled, rep, repL]⟩
  | [h1], [u], _, u2 =>
    obtain ⟨v, vs, e1, e2, e3⟩ := u2
    simp only [List.cons.injEq] at e1
    obtain ⟨rfl, rfl⟩ := e1
    exact ⟨u, by simp, e2⟩
  | h1 :: h2 :: hs, u :: v :: us, _, u2 => exact ⟨_, rfl, by simp only [tupled, rep]; exact ⟨_, rfl, u2⟩⟩

end

/-- A contract of a function, out of its body. -/
theorem spec_of {code : Nat → SF} (L : Linked code) {g : Nat} {args : List HV} {H : Heap} {Q : HV → Heap → Prop} (h : (code g).sem (Spec L.P L.ν) args H Q) : Spec L.P L.ν g args H Q := by
  intro n hn w K us hs hr
  obtain ⟨f, hf, hk⟩ := L.link n g hn
  simp only [chkF, Bool.and_eq_true, decide_eq_true_eq, Bool.not_eq_true'] at hk
  obtain ⟨⟨⟨⟨k1, k2⟩, k3⟩, k4⟩, k5⟩ := hk
  cases hb : f.body with
  | none => rw [hb] at k1; cases k1
  | some c =>
    rw [hb] at k1
    simp only at k1
    obtain ⟨h1, h2⟩ := h
    have hlen := repL_length hr
    refine calls_of_wp hf hb ?_
    have hsz : us.length ≤ (code g).N := by omega
    have hst : St L.ν w K H (code g).N (initE args) H { tmps := us.toArray ++ Array.replicate (f.ntmps - us.toArray.size) undef, defers := [] } w K (fun _ => 0) := by
      refine ⟨hs, by simp; omega, rfl, fun t x hx => ?_, fun k cs hk => by simp [initE, Env.box] at hk, fun i j c c' hi => by simp [initE, Env.box] at hi, Ext.refl _ _ _⟩
      simp only [initE, Env.get] at hx
      obtain ⟨v, hv, rfl⟩ := Option.map_eq_some_iff.1 hx
      obtain ⟨u, hu1, hu2⟩ := repL_get hr hv
      refine ⟨?_, trivial⟩
      have ht : t < us.length := by
        rcases Nat.lt_or_ge t us.length with h | h
        · exact h
        · rw [List.getElem?_eq_none h] at hu1; cases hu1
      simp only [repE, Array.getD_eq_getD_getElem?]
      rw [Array.getElem?_append_left (by simpa using ht)]
      simpa [hu1] using hu2
    refine csem_sound L.bodies L.mixed c (code g).body k1 ⟨_, _, hst⟩ h2 ?_
    intro ex e' H' a' w' ⟨hex, hres⟩ ⟨K', μ', hst'⟩
    split at hres
    · rename_i hs' hrl
      obtain ⟨h', H'', hw, hsub, hq⟩ := hres
      obtain ⟨u, u1, u2⟩ := run_results_fn (P := L.P) hst' k4 hrl
      have hfin : ∃ u h H' K', Ending.returned u = .returned u ∧ rep L.ν K' w' h u ∧ hsat L.ν w' K' H' ∧ Ext w K H w' K' H' ∧ Q h H' :=
        ⟨u, h', H'', K', rfl, hw _ _ _ _ u2, hsat_sub hst'.hs hsub, hst'.ext.sub hsub, hq⟩
      rcases hex with rfl | rfl
      · refine ⟨hst'.df, u, u1, ?_⟩
        exact ⟨u, h', H'', K', rfl, hw _ _ _ _ u2, hsat_sub hst'.hs hsub, hst'.ext.sub hsub, hq⟩
      · refine ⟨hst'.df, u, u1, ?_⟩
        exact ⟨u, h', H'', K', rfl, hw _ _ _ _ u2, hsat_sub hst'.hs hsub, hst'.ext.sub hsub, hq⟩
    · exact hres.elim

end Sm
