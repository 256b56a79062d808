/-
  A layer of one's own: text I.
-/
import Derived.Test.YtkephaeefknlbaaSmH
set_option linter.unusedVariables false
set_option linter.unusedSimpArgs false
set_option linter.unnecessarySimpa false
namespace Sm
open Go

theorem setL_length {α : Type} : ∀ (vs : List α) (cs : List α) (off : Nat), (setL cs off vs).length = cs.length
  | [], cs, off => rfl
  | v :: vs, cs, off => by simp only [setL]; rw [setL_length vs]; simp
theorem seg_step {α : Type} (l : List α) (k : Nat) (v : α) (rest : List α) (hk : k + (rest.length + 1) ≤ l.length) :
    (l.set k v).take (k + 1) ++ rest ++ (l.set k v).drop (k + 1 + rest.length) = l.take k ++ (v :: rest) ++ l.drop (k + (rest.length + 1)) := by
  have h1 : (l.set k v).take (k + 1) = l.take k ++ [v] := by
    rw [List.take_set, List.take_succ_eq_append_getElem (by omega)]
    rw [List.set_append_right _ _ (by simp; omega)]
    simp [show k - min k l.length = 0 by omega]
  have h2 : (l.set k v).drop (k + 1 + rest.length) = l.drop (k + (rest.length + 1)) := by
    rw [List.drop_set_of_lt (by omega)]; congr 1; omega
  rw [h1, h2]; simp
theorem setL_eq {α : Type} : ∀ (vs : List α) (cs : List α) (off : Nat), off + vs.length ≤ cs.length → setL cs off vs = cs.take off ++ vs ++ cs.drop (off + vs.length)
  | [], cs, off, _ => by simp [setL]
  | v :: vs, cs, off, h => by
    simp only [List.length_cons] at h
    simp only [setL]
    rw [setL_eq vs (cs.set off v) (off + 1) (by simp; omega), seg_step cs off v vs (by omega)]
    rfl
theorem repL_set {ν K w} : ∀ {hs : List HV} {us : List Value} (i : Nat) {h : HV} {u : Value}, repL ν K w hs us → rep ν K w h u → repL ν K w (hs.set i h) (us.set i u)
  | [], us, i, h, u, hr, _ => by simp [repL] at hr; subst hr; simp [repL]
  | g :: hs, us, i, h, u, hr, h' => by
    obtain ⟨v, vs, rfl, h1, h2⟩ := hr
    cases i with
    | zero => exact ⟨u, vs, by simp, h', h2⟩
    | succ i => exact ⟨v, vs.set i u, by simp, h1, repL_set i h2 h'⟩
theorem repL_setL {ν K w} : ∀ {ns : List HV} {vs : List Value} {hs : List HV} {us : List Value} (off : Nat), repL ν K w hs us → repL ν K w ns vs → repL ν K w (setL hs off ns) (setL us off vs)
  | [], vs, hs, us, off, hr, hn => by simp [repL] at hn; subst hn; exact hr
  | n :: ns, vs, hs, us, off, hr, hn => by
    obtain ⟨v, vs', rfl, h1, h2⟩ := hn
    simp only [setL]
    exact repL_setL (off + 1) (repL_set off hr h1) h2
theorem setL_all {p : HV → Bool} : ∀ (vs : List HV) (cs : List HV) (off : Nat), cs.all p = true → vs.all p = true → (setL cs off vs).all p = true
  | [], cs, off, h, _ => h
  | v :: vs, cs, off, h, hv => by
    simp only [List.all_cons, Bool.and_eq_true] at hv
    simp only [setL]
    refine setL_all vs _ _ ?_ hv.2
    rw [List.all_eq_true] at h ⊢
    intro x hx
    rcases List.mem_or_eq_of_mem_set hx with hx | hx
    · exact h x hx
    · subst hx; exact hv.1

theorem fold_set (off : Nat) : ∀ (vs : List Value) (i : Nat) (cs : Array Value), ((vs.zipIdx i).foldl (fun (cs : Array Value) (p : Value × Nat) => cs.setIfInBounds (off + p.2) p.1) cs).toList = setL cs.toList (off + i) vs
  | [], i, cs => by simp [setL]
  | v :: vs, i, cs => by
    simp only [List.zipIdx_cons, List.foldl_cons, setL]
    rw [fold_set off vs (i + 1)]
    simp [Nat.add_assoc]
theorem fold_arr (off : Nat) (vs : Array Value) (cs : Array Value) : (vs.zipIdx.foldl (fun (cs : Array Value) (p : Value × Nat) => cs.setIfInBounds (off + p.2) p.1) cs).toList = setL cs.toList off vs.toList := by
  rw [← Array.foldl_toList]
  simpa using fold_set off vs.toList 0 cs

section
variable {P : Program} {ν : Nat → Option Nat} {w0 : World} {K0 : Nat → Nat} {H0 : Heap} {N : Nat} {e : Env} {H : Heap} {a : Act} {w : World} {K μ : Nat → Nat} {o : Oper}

theorem fill_sound (hst : St ν w0 K0 H0 N e H a w K μ) {T : TypeId} {fs : Array Field} {place : Nat → Option (Nat × Nat)} (hu : P.underlying T = some (.struct fs)) (hp : ∀ i f, fs[i]? = some f → ∀ n, szOf P f.type = some n → place i = some (f.offset, n)) :
    ∀ (ps : List (Nat × Operand)) (qs : List (Nat × Nat × Opd)) (z cs : List HV) (us : Array Value), okParts P ν T ps qs = true → repL ν K w z us.toList → z.all HV.one = true →
      buildv z (qs.map fun p => (p.1, p.2.1, e.hv p.2.2)) = some cs →
      ∃ us', Instr.fill place us (ps.map fun (i, x) => (i, a.eval x)) = some us' ∧ repL ν K w cs us'.toList ∧ cs.all HV.one = true
  | [], [], z, cs, us, _, hr, h1, hb => by
    simp only [List.map_nil, buildv, Option.some.injEq] at hb; subst hb
    exact ⟨us, rfl, hr, h1⟩
  | [], _ :: _, _, _, _, hk, _, _, _ => by simp [okParts] at hk
  | _ :: _, [], _, _, _, hk, _, _, _ => by simp [okParts] at hk
  | (i, x) :: ps, (off, n, y) :: qs, z, cs, us, hk, hr, h1, hb => by
    simp only [okParts, Bool.and_eq_true] at hk
    obtain ⟨⟨hk1, hk2⟩, hk3⟩ := hk
    cases hf : fieldOf P T i with
    | none => simp [hf] at hk1
    | some f =>
      simp only [hf, Bool.and_eq_true, decide_eq_true_eq] at hk1
      obtain ⟨hoff, hn⟩ := hk1
      obtain ⟨fs', hu', hfs⟩ := fieldOf_under hf
      rw [hu] at hu'; simp only [Option.some.injEq, TypeDesc.struct.injEq] at hu'; subst hu'
      have hpl := hp i f hfs n hn
      simp only [List.map_cons] at hb ⊢
      cases hy : e.hv y with
      | none => simp [hy, buildv] at hb
      | some h =>
        simp only [hy, buildv] at hb
        split at hb
        · rename_i hc
          obtain ⟨hc1, hc2, hc3⟩ := hc
          have hv := hv_sound hst hk2 hy
          have hsz := rep_cells_size hc2 hv
          obtain ⟨hcl, hco⟩ := rep_cells hc2 hv
          have hlen := repL_length hr
          subst hoff
          have hns : ¬ ((a.eval x).cells.size ≠ n ∨ f.offset + (a.eval x).cells.size > us.size) := by
            have : us.size = z.length := by simpa using hlen
            rw [hsz, hc1]; omega
          simp only [Instr.fill, hpl]
          rw [if_neg (by simpa using hns)]
          refine fill_sound hst hu hp ps qs _ cs _ hk3 ?_ ?_ hb
          · rw [fold_arr]
            exact repL_setL _ hr hcl
          · exact setL_all _ _ _ h1 hco
        · cases hb

theorem run_mapM_list {α β : Type} (f : α → Sem β) (g : α → β) : ∀ (l : List α), (∀ x ∈ l, (f x).run P w = .ok (g x) w) → (l.mapM f).run P w = .ok (l.map g) w
  | [], _ => by simp
  | x :: l, h => by
    simp only [List.mapM_cons, Sem.run_bind, h x (by simp), Result.andThen_ok, run_mapM_list f g l (fun y hy => h y (by simp [hy])), Sem.run_pure, List.map_cons]

theorem run_mapM_arr {α β : Type} (f : α → Sem β) (g : α → β) (l : Array α) (h : ∀ x ∈ l, (f x).run P w = .ok (g x) w) : (l.mapM f).run P w = .ok (l.map g) w := by
  rw [Array.mapM_eq_mapM_toList]
  simp only [Sem.run_map, run_mapM_list f g l.toList (fun x hx => h x (by simpa using hx)), Result.andThen_ok]
  congr 1
  apply Array.toList_inj.1
  simp

theorem ev_build (hst : St ν w0 K0 H0 N e H a w K μ) {T ps z qs fs zv} (ho : o.op = .build T ps) (hz0 : (P.info? T).bind (·.zero) = some zv) (hzq : zeq zv.cells.toList z = true) (hu : P.underlying T = some (.struct fs))
    (hall : fs.toList.all (fun f => (szOf P f.type).isSome) = true) (hps : okParts P ν T ps.toList qs = true) {x} (hz : (SOp.build z qs).ev e H = some x) : Calm P ν K μ e a w o x := by
  simp only [SOp.ev] at hz
  cases hb : buildv z (qs.map fun p => (p.1, p.2.1, e.hv p.2.2)) with
  | none => simp [hb] at hz
  | some cs =>
    simp only [hb, Option.map_some, Option.some.injEq] at hz; subst hz
    obtain ⟨hr, h1⟩ := zeq_rep (ν := ν) (K := K) (w := w) hzq
    have hplace : ∀ f ∈ fs, ((do pure (f.offset, ← Go.sizeOf f.type)) : Sem (Nat × Nat)).run P w = .ok (f.offset, (szOf P f.type).getD 0) w := by
      intro f hf
      rw [List.all_eq_true] at hall
      obtain ⟨n, hn⟩ := Option.isSome_iff_exists.1 (hall f (by simpa using hf))
      simp [run_sizeOf hn, hn]
    have hm := run_mapM_arr (P := P) (w := w) (fun f : Field => (do pure (f.offset, ← Go.sizeOf f.type) : Sem (Nat × Nat))) (fun f => (f.offset, (szOf P f.type).getD 0)) fs hplace
    obtain ⟨us', g1, g2, g3⟩ := fill_sound (P := P) hst hu (place := fun i => (fs.map fun f => (f.offset, (szOf P f.type).getD 0))[i]?) (fun i f hf n hn => by simp [hf, hn]) ps.toList qs z cs zv.cells hps hr h1 hb
    obtain ⟨i, hi, hzi⟩ := Option.bind_eq_some_iff.1 hz0
    refine ⟨.agg us', ?_, ?_, trivial⟩
    · simp only [execOp, ho, Instr.build, zeroValue, typeInfo, Sem.run_bind, run_program, Result.andThen_ok, hi, Sem.run_pure, hzi, run_underlying hu, hm, Array.toList_map, g1]
    · simp only [repE, rep]; exact ⟨us'.toList, by simp, g3, g2⟩

end
end Sm
