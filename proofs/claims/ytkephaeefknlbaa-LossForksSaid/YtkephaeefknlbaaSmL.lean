/-
  A layer of one's own: text L.
-/
import Derived.Test.YtkephaeefknlbaaSmJ
set_option linter.unusedVariables false
set_option linter.unusedSimpArgs false
set_option linter.unnecessarySimpa false
namespace Sm
open Go

theorem setL_append {α : Type} : ∀ (a cs : List α) (off : Nat) (b : List α), setL (setL cs off a) (off + a.length) b = setL cs off (a ++ b)
  | [], cs, off, b => by simp [setL]
  | x :: a, cs, off, b => by
    simp only [setL, List.cons_append, List.length_cons]
    rw [← setL_append a (cs.set off x) (off + 1) b]
    congr 1; omega

section
variable {P : Program} {ν : Nat → Option Nat} {w0 : World} {K0 : Nat → Nat} {H0 : Heap} {N : Nat} {e : Env} {H : Heap} {a : Act} {w : World} {K μ : Nat → Nat} {o : Oper}

theorem fill_seq (hst : St ν w0 K0 H0 N e H a w K μ) {sz : Nat} : ∀ (ps : List (Nat × Operand)) (qs : List Opd) (k : Nat) (us : Array Value) (hs : List HV), okSeq ν k ps qs = true → e.hvs qs = some hs →
    hs.all HV.el = true → (∀ h ∈ hs, h.ncells = sz) → (k + hs.length) * sz ≤ us.size →
    ∃ us' vals, Instr.fill (fun i => some (i * sz, sz)) us (ps.map fun (i, x) => (i, a.eval x)) = some us' ∧ repL ν K w hs vals ∧ us'.toList = setL us.toList (k * sz) (flat vals)
  | [], [], k, us, hs, _, hh, _, _, _ => by
    simp only [Env.hvs, Option.some.injEq] at hh; subst hh
    exact ⟨us, [], rfl, by simp [repL], by simp [flat, setL]⟩
  | [], _ :: _, _, _, _, hk, _, _, _, _ => by simp [okSeq] at hk
  | _ :: _, [], _, _, _, hk, _, _, _, _ => by simp [okSeq] at hk
  | (i, x) :: ps, y :: qs, k, us, hs, hk, hh, hel, hnc, hle => by
    simp only [okSeq, Bool.and_eq_true, decide_eq_true_eq] at hk
    obtain ⟨⟨rfl, hk2⟩, hk3⟩ := hk
    simp only [Env.hvs] at hh
    split at hh
    · rename_i h hs' h1 h2
      simp only [Option.some.injEq] at hh; subst hh
      simp only [List.all_cons, Bool.and_eq_true] at hel
      have hv := hv_sound hst hk2 h1
      have hsz := rep_cells_size hel.1 hv
      have hn := hnc h (by simp)
      simp only [List.length_cons] at hle
      have hle1 : (i + 1 + hs'.length) * sz ≤ us.size := by rw [show i + 1 + hs'.length = i + (hs'.length + 1) by omega]; exact hle
      have hle2 : i * sz + sz ≤ us.size := by
        have : (i + 1) * sz ≤ (i + 1 + hs'.length) * sz := Nat.mul_le_mul_right _ (by omega)
        rw [Nat.add_mul] at this; omega
      have hc : ¬ ((a.eval x).cells.size ≠ sz ∨ i * sz + (a.eval x).cells.size > us.size) := by rw [hsz, hn]; omega
      simp only [List.map_cons, Instr.fill]
      rw [if_neg (by simpa using hc)]
      have hfold := fold_arr (i * sz) (a.eval x).cells us
      obtain ⟨us', vals, g1, g2, g3⟩ := fill_seq hst ps qs (i + 1) ((a.eval x).cells.zipIdx.foldl (fun (cs : Array Value) (p : Value × Nat) => cs.setIfInBounds (i * sz + p.2) p.1) us) hs' hk3 h2 hel.2 (fun g hg => hnc g (by simp [hg]))
        (by have : ((a.eval x).cells.zipIdx.foldl (fun (cs : Array Value) (p : Value × Nat) => cs.setIfInBounds (i * sz + p.2) p.1) us).size = us.size := by
              rw [← Array.length_toList, hfold, setL_length, Array.length_toList]
            rw [this]; exact hle1)
      refine ⟨us', a.eval x :: vals, g1, ⟨_, _, rfl, hv, g2⟩, ?_⟩
      rw [g3, hfold]
      have hl : (a.eval x).cells.toList.length = sz := by rw [Array.length_toList, hsz, hn]
      have := setL_append (a.eval x).cells.toList us.toList (i * sz) (flat vals)
      rw [hl] at this
      rw [show (i + 1) * sz = i * sz + sz by rw [Nat.add_mul]; omega, this]
      simp [flat]
    · cases hh

theorem st_bslice (hst : St ν w0 K0 H0 N e H a w K μ) {T len ps sz qs el z} (ho : o.op = .buildSlice T len ps) (hT : Sm.elemOf P T = some el) (hsz : szOf P el = some sz) (h0 : 0 < sz) (hlen : len * sz ≤ 2 ^ 24) (hlq : len = qs.length)
    (hz : (P.info? el).bind (·.zero) = some z) (hzs : z.cells.size = sz) (hps : okSeq ν 0 ps.toList qs = true)
    {Kc} {next : Act → World → Prop} {Q} (hs : (SOp.bslice sz qs).step (Spec P ν) e H Kc) (hK : Next' ν w0 K0 H0 N a o.dst Kc next) : o.upon P a next Q ((execOp a.eval o).run P w) := by
  have hu := elemOf_under hT
  obtain ⟨i, hi, hzi⟩ := Option.bind_eq_some_iff.1 hz
  simp only [SOp.step] at hs
  split at hs
  · rename_i hs' hh
    obtain ⟨h1, h2, h3⟩ := hs
    have hl' : hs'.length = qs.length := by
      have : ∀ (qs : List Opd) (hs' : List HV), e.hvs qs = some hs' → hs'.length = qs.length := by
        intro qs
        induction qs with
        | nil => intro hs' h; simp [Env.hvs] at h; subst h; rfl
        | cons q qs ih =>
          intro hs' h
          simp only [Env.hvs] at h
          split at h
          · rename_i g gs _ hg
            simp only [Option.some.injEq] at h; subst h
            simp [ih gs hg]
          · cases h
      exact this qs hs' hh
    obtain ⟨us', vals, g1, g2, g3⟩ := fill_seq (sz := sz) hst ps.toList qs 0 ((Array.range (len * sz)).map fun j => z.cells[j % z.cells.size]!) hs' hps hh h1 h2 (by simp; rw [hl', ← hlq]; exact Nat.le_refl _)
    have hfl := flat_length g2 h1 h2
    have hus : us'.toList = flat vals := by
      rw [g3, Nat.zero_mul, setL_eq _ _ _ (by simp [hfl, hl', ← hlq])]
      rw [List.take_zero, List.nil_append, List.drop_eq_nil_of_le (by simp [hfl, hl', ← hlq]), List.append_nil]
    have hrun : (execOp a.eval o).run P w = .ok (.value (.slice (some ⟨w.heap.size, 0, none⟩) len len)) (w.alloc (.cells us' el)) := by
      by_cases hl0 : len * sz = 0
      · have e0 : (Array.range (len * sz)).map (fun j => z.cells[j % z.cells.size]!) = #[] := by rw [hl0]; simp
        rw [e0] at g1
        simp only [execOp, ho, Instr.buildSlice, Sem.run_bind, run_underlying hu, Result.andThen_ok, run_sizeOf hsz, if_neg (show ¬ len * sz > 2 ^ 24 by omega), if_pos hl0, Sem.run_pure, Array.toList_map]
        simp only [hl0, Array.range_zero', List.map_toArray, List.map_nil, g1, newRow, Sem.run_bind, run_newObj_alloc, Result.andThen_ok, Sem.run_pure]
      · simp only [execOp, ho, Instr.buildSlice, Sem.run_bind, run_underlying hu, Result.andThen_ok, run_sizeOf hsz, if_neg (show ¬ len * sz > 2 ^ 24 by omega), if_neg hl0, zeroValue, typeInfo, run_program, hi, hzi, Sem.run_pure, Array.toList_map, g1, newRow, run_newObj_alloc]
    rw [hrun]
    apply upon_value
    have hsize : us'.size = hs'.length * sz := by rw [← Array.length_toList, hus, hfl]
    obtain ⟨x1, x2⟩ := push_commit hst.hs us' el us'.size (Nat.le_refl _)
    refine hK _ _ _ h3 _ _ _ _ (hst.step x1 x2) ?_ trivial
    simp only [repE, rep]
    refine ⟨some ⟨w.heap.size, 0, none⟩, len, vals, by rw [hl', ← hlq], by rw [hl', hlq]; exact Nat.le_refl _, ?_, by simp [tkok, hl', ← hlq], h1, h2, g2.grow x1.grow, .inr ⟨_, 0, rfl, ?_, ?_⟩⟩
    · have : len * 1 ≤ len * sz := Nat.mul_le_mul_left _ h0
      simp only [maxLen]; omega
    · simp [hsize]
    · rw [← hus]; exact cellsAt_block (heap_alloc_new w _)
  · exact hs.elim

theorem grow_rep_new {w' : World} {K' : Nat → Nat} {b n c : Nat} {us : Array Value} {el : TypeId} {sz : Nat} {es : List HV} {vals : List Value} {tk : Tk} (hb : w'.heap[b]? = some (.cells us el (0, 0))) (hel : es.all HV.el = true) (hnc : ∀ h ∈ es, h.ncells = sz)
    (hr : repL ν K' w' es vals) (hus : us.toList.take (es.length * sz) = flat vals) (hK : es.length * sz ≤ K' b) (hn : n = es.length) (hc : es.length ≤ c) (hm : c ≤ maxLen) (htk : tkok tk (some ⟨b, 0, none⟩) es.length c) :
    rep ν K' w' (.sl tk sz es) (.slice (some ⟨b, 0, none⟩) n c) := by
  subst hn
  simp only [rep]
  refine ⟨_, c, vals, rfl, hc, hm, htk, hel, hnc, hr, .inr ⟨b, 0, rfl, by omega, ?_⟩⟩
  rw [← hus]
  exact cellsAt_take (cellsAt_block hb) _

/-- What a source of an append reads as. -/
theorem rdv_sound {h : HV} {u : Value} {sz' : Nat} {ys : List HV} (hr : rep ν K w h u) (hh : rdv h = some (sz', ys)) :
    ∃ A c vals, u = .slice A ys.length c ∧ ys.all HV.el = true ∧ (∀ y ∈ ys, y.ncells = sz') ∧ repL ν K w ys vals ∧
      (ys = [] ∨ ∃ b off, A = some ⟨b, off, none⟩ ∧ off + ys.length * sz' ≤ K b ∧ cellsAt w b off (flat vals)) := by
  unfold rdv at hh
  split at hh
  · simp only [Option.some.injEq, Prod.mk.injEq] at hh
    obtain ⟨rfl, rfl⟩ := hh
    simp only [rep] at hr
    obtain ⟨A, cap, vals, g1, g2, g3, g4, g5, g6, g7, g8⟩ := hr
    exact ⟨A, cap, vals, g1, g5, g6, g7, g8⟩
  · simp only [Option.some.injEq, Prod.mk.injEq] at hh
    obtain ⟨rfl, rfl⟩ := hh
    simp only [rep] at hr
    exact ⟨none, 0, [], hr, rfl, by simp, by simp [repL], .inl rfl⟩
  · cases hh

theorem cellsAt_add {b off : Nat} {us : List Value} (h : cellsAt w b off us) : ∀ j v, us[j]? = some v → w.cell? ((⟨b, off, none⟩ : Addr).add j) = some v := by
  intro j v hj; rw [addr_add]; exact h j v hj

theorem run_append_zero {t ty el : TypeId} {i : TypeInfo} (ht : P.underlying t = some (.slice el)) (hi : P.info? el = some i) {A B : Option Addr} {n c c' : Nat} (hnc : n ≤ c) :
    (Builtin.append_ #[t, t] ty #[.slice A n c, .slice B 0 c']).run P w = .ok (.slice A n c) w := by
  have hf : (Builtin.firstCells i.size 0 (.slice B 0 c')).run P w = .ok #[] w := by
    cases B with
    | none => simp [Builtin.firstCells]
    | some b => simp [Builtin.firstCells, loadCells, loadCellsFrom]
  cases A with
  | none => simp [Builtin.append_, run_underlying ht, Go.sizeOf, typeInfo, hi, Builtin.lenOf, hnc, hf]
  | some ad => simp [Builtin.append_, run_underlying ht, Go.sizeOf, typeInfo, hi, Builtin.lenOf, hnc, hf, storeCells]

theorem repL_weak : ∀ {cs' cs : List HV} {us : List Value}, WeakL cs' cs → repL ν K w cs' us → repL ν K w cs us
  | [], [], us, _, h => h
  | [], _ :: _, _, h, _ => h.elim
  | _ :: _, [], _, h, _ => h.elim
  | a :: as, b :: bs, us, h, hr => by
    obtain ⟨u, us', rfl, h1, h2⟩ := hr
    exact ⟨u, us', rfl, h.1 _ _ _ _ h1, repL_weak h.2 h2⟩
theorem hsat_sub {H' : Heap} (hs : hsat ν w K H) (h : H'.sub H) : hsat ν w K H' := by
  refine ⟨fun b r hb => ?_, hs.fresh⟩
  obtain ⟨r', h1, h2⟩ := h b r hb
  have h3 := hs.res b r' h1
  rcases h2 with rfl | h2
  · exact h3
  · cases r' <;> cases r <;> simp only [RWeak] at h2
    obtain ⟨us, T, g1, g2, g3, g4⟩ := h3
    exact ⟨us, T, g1, g2, repL_weak h2.1 g3, h2.2⟩

/-- A grown row in a new block, in the abstract state. -/
theorem app_new (hst : St ν w0 K0 H0 N e H a w K μ) {el : TypeId} {sz c : Nat} {xs ys : List HV} {vx vy : List Value} {z : List Value} (hx : repL ν K w xs vx) (hy : repL ν K w ys vy) (hex : xs.all HV.el = true) (hey : ys.all HV.el = true)
    (hnx : ∀ h ∈ xs, h.ncells = sz) (hny : ∀ h ∈ ys, h.ncells = sz) (hz : z.length = (c - (xs.length + ys.length)) * sz) (hc : xs.length + ys.length ≤ c) (hm : c ≤ maxLen) :
    ∃ K', St ν w0 K0 H0 N e (H.upd w.heap.size (some (.tip ((xs.length + ys.length) * sz) (c * sz)))) a (w.drew.alloc (.cells (flat vx ++ flat vy ++ z).toArray el)) K' μ ∧
      rep ν K' (w.drew.alloc (.cells (flat vx ++ flat vy ++ z).toArray el)) (.sl (.tip w.heap.size c) sz (xs ++ ys)) (.slice (some ⟨w.heap.size, 0, none⟩) (xs.length + ys.length) c) := by
  have hfx := flat_length hx hex hnx
  have hfy := flat_length hy hey hny
  have hd := hst.draw (n := w.drawn + 1)
  have hsz : (flat vx ++ flat vy ++ z).toArray.size = c * sz := by
    simp only [List.size_toArray, List.length_append, hfx, hfy, hz, ← Nat.add_mul]
    congr 1; omega
  obtain ⟨x1, x2⟩ := push_tip (w := w.drew) hd.hs (flat vx ++ flat vy ++ z).toArray el ((xs.length + ys.length) * sz) (c * sz) (by rw [hsz]; exact Nat.mul_le_mul_right _ hc) (by rw [hsz]; exact Nat.le_refl _)
  have hgd : Grow w K w.drew K := ⟨fun _ => Nat.le_refl _, fun _ _ _ => rfl⟩
  refine ⟨_, hd.step x1 x2, ?_⟩
  refine grow_rep_new (us := (flat vx ++ flat vy ++ z).toArray) (el := el) (vals := vx ++ vy) (by simpa using heap_alloc_new w.drew (.cells (flat vx ++ flat vy ++ z).toArray el)) (by rw [List.all_append, hex, hey]; rfl) (fun h hh => (List.mem_append.1 hh).elim (hnx h) (hny h))
    (((repL_append hx hy).grow hgd).grow x1.grow) ?_ (by simp) (by simp) (by simpa using hc) hm (by simp [tkok])
  simp only [List.length_append]
  rw [show (xs.length + ys.length) * sz = (flat vx ++ flat vy).length by rw [List.length_append, hfx, hfy, Nat.add_mul], show flat (vx ++ vy) = flat vx ++ flat vy by simp [flat]]
  exact List.take_left

end
end Sm
