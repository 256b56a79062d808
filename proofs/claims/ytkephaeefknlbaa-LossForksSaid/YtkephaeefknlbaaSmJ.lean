/-
  A layer of one's own: text J.
-/
import Derived.Test.YtkephaeefknlbaaSmI
set_option linter.unusedVariables false
set_option linter.unusedSimpArgs false
set_option linter.unnecessarySimpa false
namespace Sm
open Go

theorem rep_one {ν K w h u} (h1 : h.one = true) (hr : rep ν K w h u) : u.oneCell' = true := by
  cases h with
  | v x => simp only [rep] at hr; subst hr; exact h1
  | sl tk sz es => simp only [rep] at hr; obtain ⟨A, cap, vals, rfl, _⟩ := hr; rfl
  | rp cs => simp only [rep] at hr; obtain ⟨b, off, us, rfl, _⟩ := hr; rfl
  | fn g caps => simp only [rep] at hr; obtain ⟨n, us, _, rfl, _⟩ := hr; rfl
  | ag cs => simp [HV.one] at h1
  | tu vs => simp [HV.one] at h1
theorem repL_one {ν K w} : ∀ {hs : List HV} {us : List Value}, repL ν K w hs us → hs.all HV.one = true → ∀ u ∈ us, u.oneCell' = true
  | [], us, h, _ => by simp [repL] at h; subst h; simp
  | g :: hs, us, hr, ha => by
    obtain ⟨u, us', rfl, h1, h2⟩ := hr
    simp only [List.all_cons, Bool.and_eq_true] at ha
    intro x hx
    rcases List.mem_cons.1 hx with hx | hx
    · subst hx; exact rep_one ha.1 h1
    · exact repL_one h2 ha.2 x hx
theorem flat_one {ν K w} : ∀ {es : List HV} {vals : List Value}, repL ν K w es vals → es.all HV.el = true → ∀ u ∈ flat vals, u.oneCell' = true
  | [], us, h, _ => by simp [repL] at h; subst h; simp [flat]
  | g :: es, vals, hr, ha => by
    obtain ⟨u, us', rfl, h1, h2⟩ := hr
    simp only [List.all_cons, Bool.and_eq_true] at ha
    intro x hx
    simp only [flat, List.flatMap_cons, List.mem_append] at hx
    rcases hx with hx | hx
    · obtain ⟨c1, c2⟩ := rep_cells ha.1 h1
      exact repL_one c1 c2 x hx
    · exact flat_one h2 ha.2 x hx

section
variable {P : Program} {ν : Nat → Option Nat} {w0 : World} {K0 : Nat → Nat} {H0 : Heap} {N : Nat} {e : Env} {H : Heap} {a : Act} {w : World} {K μ : Nat → Nat} {o : Oper}

/-- What stands behind an operation. -/
def Next' (ν : Nat → Option Nat) (w0 : World) (K0 : Nat → Nat) (H0 : Heap) (N : Nat) (a : Act) (dst : Option Nat) (Kc : EV → Env → Heap → Prop) (next : Act → World → Prop) : Prop :=
  ∀ x e' H', Kc x e' H' → ∀ u w' K' μ', St ν w0 K0 H0 N e' H' a w' K' μ' → repE ν K' w' μ' x u → x.live e' → next (a.put dst u) w'

theorem upon_value {next : Act → World → Prop} {Q : Exit → Act → World → Prop} {u : Value} {w' : World} (h : next (a.put o.dst u) w') : o.upon P a next Q (.ok (.value u) w') := h

theorem fz_setRow {w : World} {b : Nat} {us us' : Array Value} {T : TypeId} {fr : Nat × Nat} (h : w.heap[b]? = some (.cells us T fr)) (a : Addr) : (w.setRow b us').frozen? a = w.frozen? a := by
  by_cases hb : a.block = b
  · subst hb
    simp only [World.frozen?, setRow_heap w a.block us us' T fr h, h]
  · simp only [World.frozen?, setRow_other w b a.block us' hb]

/-- A write into an object. -/
theorem write_obj (hs : hsat ν w K H) {b off : Nat} {cs ns : List HV} {vs : List Value} (hb : H b = some (.obj cs)) (hle : off + vs.length ≤ cs.length) (hv : repL ν K w ns vs) (hn : ns.all HV.one = true) :
    ∃ w', (∀ (i : Nat), i = 0 → (storeCells ⟨b, off, none⟩ vs i).run P w = .ok () w') ∧ Ext w K H w' K (H.upd b (some (.obj (setL cs off ns)))) ∧ hsat ν w' K (H.upd b (some (.obj (setL cs off ns)))) := by
  obtain ⟨us, T, g1, g2, g3, g4⟩ := hs.res b _ hb
  have hlen := repL_length g3
  have hvl := repL_length hv
  have hst := run_storeCells_at P b off T vs 0 us w g1 (by simp at hlen; omega) (repL_one hv hn)
  simp only [Nat.add_zero] at hst
  rw [← setL_eq vs us.toList off (by omega)] at hst
  have hg : Grow w K (w.setRow b (setL us.toList off vs).toArray) K := ⟨fun _ => Nat.le_refl _, fun c j hj => cell_setRow_other w b _ _ (by rintro rfl; rw [g2] at hj; omega)⟩
  refine ⟨w.setRow b (setL us.toList off vs).toArray, fun i hi => by subst hi; exact hst, ⟨rfl, rfl, rfl, by simp, hg, fun c hc hH => ⟨setRow_other w b c _ (by rintro rfl; rw [hb] at hH; cases hH), rfl, by rw [Heap.upd]; split <;> simp_all⟩, fun a ha => (fz_setRow g1 a).trans ha⟩, ⟨fun c r hc => ?_, fun c hc => hs.fresh c (by simpa using hc)⟩⟩
  by_cases hcb : c = b
  · subst hcb
    simp only [Heap.upd, if_true, Option.some.injEq] at hc; subst hc
    exact ⟨_, T, setRow_heap w c us _ T _ g1, g2, by simpa using (repL_setL off g3 hv).grow hg, setL_all _ _ _ g4 hn⟩
  · rw [Heap.upd, if_neg hcb] at hc
    exact (hs.res c r hc).move hg (setRow_other w b c _ hcb) rfl

/-- A write into a private box. -/
theorem write_box (hst : St ν w0 K0 H0 N e H a w K μ) {k off : Nat} {cs ns : List HV} {vs : List Value} (hb : e.box k = some cs) (hle : off + vs.length ≤ cs.length) (hv : repL ν K w ns vs) (hn : ns.all HV.one = true) :
    ∃ w', (storeCells ⟨μ k, off, none⟩ vs).run P w = .ok () w' ∧ St ν w0 K0 H0 N (e.setb k (setL cs off ns)) H a w' K μ := by
  obtain ⟨hB, hH, us, T, g1, g2, g3, g4⟩ := hst.box k cs hb
  have hlen := repL_length g3
  have hvl := repL_length hv
  have hrun := run_storeCells_at P (μ k) off T vs 0 us w g1 (by simp at hlen; omega) (repL_one hv hn)
  simp only [Nat.add_zero] at hrun
  rw [← setL_eq vs us.toList off (by omega)] at hrun
  have hg : Grow w K (w.setRow (μ k) (setL us.toList off vs).toArray) K := ⟨fun _ => Nat.le_refl _, fun c j hj => cell_setRow_other w _ _ _ (by intro hc; simp only at hc; subst hc; rw [g2] at hj; omega)⟩
  have live : ∀ x : EV, x.live e → x.live (e.setb k (setL cs off ns)) := by
    intro x hx
    cases x with
    | h => trivial
    | lp i o =>
      simp only [EV.live, Env.setb, Env.box, upd] at hx ⊢
      split
      · rfl
      · exact hx
  refine ⟨_, hrun, ⟨⟨fun c r hc => (hst.hs.res c r hc).move hg (setRow_other w _ c _ (by rintro rfl; rw [hH] at hc; cases hc)) rfl, fun c hc => hst.hs.fresh c (by simpa using hc)⟩, hst.sz, hst.df,
    fun t x hx => ⟨(hst.slot t x hx).1.grow hg, live x (hst.slot t x hx).2⟩, fun i cs' hi => ?_, fun i j c c' hi hj hij => ?_, ?_⟩⟩
  · simp only [Env.setb, Env.box, upd] at hi
    by_cases hik : k = i
    · subst hik
      simp only [if_true, Option.some.injEq] at hi; subst hi
      exact ⟨hB, hH, _, T, setRow_heap w _ us _ T _ g1, g2, by simpa using (repL_setL off g3 hv).grow hg, setL_all _ _ _ g4 hn⟩
    · rw [if_neg hik] at hi
      obtain ⟨b1, b2, us', T', b3, b4, b5, b6⟩ := hst.box i cs' hi
      refine ⟨b1, b2, us', T', (setRow_other w _ _ _ (fun he => hik (hst.inj i k _ _ hi hb he).symm)).trans b3, b4, b5.grow hg, b6⟩
  · have key : ∀ i c, (e.setb k (setL cs off ns)).box i = some c → ∃ c, e.box i = some c := by
      intro i c hi
      simp only [Env.setb, Env.box, upd] at hi
      by_cases hik : k = i
      · subst hik; exact ⟨_, hb⟩
      · rw [if_neg hik] at hi; exact ⟨_, hi⟩
    obtain ⟨c1, h1⟩ := key i c hi
    obtain ⟨c2, h2⟩ := key j c' hj
    exact hst.inj i j c1 c2 h1 h2 hij
  · refine ⟨hst.ext.os, hst.ext.tape, hst.ext.output, by simpa using hst.ext.size, hst.ext.grow.trans hg, fun c hc hH' => ?_, fun a ha => (fz_setRow g1 a).trans (hst.ext.fz a ha)⟩
    obtain ⟨e1, e2, e3⟩ := hst.ext.same c hc hH'
    exact ⟨(setRow_other w _ c _ (by rintro rfl; omega)).trans e1, e2, e3⟩

theorem st_alloc (hst : St ν w0 K0 H0 N e H a w K μ) {T loc cs z} (ho : o.op = .alloc T) (hz : (P.info? T).bind (·.zero) = some z) (hzq : zeq z.cells.toList cs = true)
    {Kc} {next : Act → World → Prop} {Q} (hs : (SOp.alloc loc cs).step (Spec P ν) e H Kc) (hK : Next' ν w0 K0 H0 N a o.dst Kc next) : o.upon P a next Q ((execOp a.eval o).run P w) := by
  obtain ⟨hr, h1⟩ := zeq_rep (ν := ν) (K := K) (w := w) hzq
  obtain ⟨i, hi, hzi⟩ := Option.bind_eq_some_iff.1 hz
  have hrun : (execOp a.eval o).run P w = .ok (.value (.pointer (some ⟨w.heap.size, 0, none⟩))) (w.alloc (.cells z.cells T)) := by
    simp [execOp, ho, Instr.alloc, zeroValue, typeInfo, hi, hzi, newVar, newRow]
  rw [hrun]
  apply upon_value
  simp only [SOp.step] at hs
  cases loc with
  | some k =>
    have h2 := hst.newbox z.cells T k cs hs.1 hr h1
    exact hK _ _ _ hs.2 _ _ _ _ h2 (by simp [repE]) (by simp [EV.live, Env.setb, Env.box, upd])
  | none =>
    have h2 := push_obj hst.hs z.cells T cs hr h1
    exact hK _ _ _ (hs w.heap.size (hst.hs.none_new (Nat.le_refl _))) _ _ _ _ (hst.step h2.1 h2.2) (by simp [repE, rep]) trivial

theorem st_box (hst : St ν w0 K0 H0 N e H a w K μ) {T loc n x x'} (ho : o.op = .box T x) (hx : okOpd ν x x' = true)
    {Kc} {next : Act → World → Prop} {Q} (hs : (SOp.box loc n x').step (Spec P ν) e H Kc) (hK : Next' ν w0 K0 H0 N a o.dst Kc next) : o.upon P a next Q ((execOp a.eval o).run P w) := by
  simp only [SOp.step] at hs
  split at hs
  · rename_i h hh
    obtain ⟨h1, h2, h3⟩ := hs
    have hv := hv_sound hst hx hh
    obtain ⟨c1, c2⟩ := rep_cells h2 hv
    have hrun : (execOp a.eval o).run P w = .ok (.value (.pointer (some ⟨w.heap.size, 0, none⟩))) (w.alloc (.cells (a.eval x).cells T)) := by
      simp [execOp, ho, Instr.box, newVar, newRow]
    rw [hrun]
    apply upon_value
    split at h3
    · rename_i k
      have h4 := hst.newbox (a.eval x).cells T k h.cells h3.1 c1 c2
      exact hK _ _ _ h3.2 _ _ _ _ h4 (by simp [repE]) (by simp [EV.live, Env.setb, Env.box, upd])
    · have h4 := push_obj hst.hs (a.eval x).cells T h.cells c1 c2
      exact hK _ _ _ (h3 w.heap.size (hst.hs.none_new (Nat.le_refl _))) _ _ _ _ (hst.step h4.1 h4.2) (by simp [repE, rep]) trivial
  · exact hs.elim

theorem st_store (hst : St ν w0 K0 H0 N e H a w K μ) {T n x y x' y'} (ho : o.op = .store T x y) (hn : szOf P T = some n) (hx : okOpd ν x x' = true) (hy : okOpd ν y y' = true)
    {Kc} {next : Act → World → Prop} {Q} (hs : (SOp.store n x' y').step (Spec P ν) e H Kc) (hK : Next' ν w0 K0 H0 N a o.dst Kc next) : o.upon P a next Q ((execOp a.eval o).run P w) := by
  simp only [SOp.step] at hs
  split at hs
  · rename_i h hh
    obtain ⟨h1, h2, h3⟩ := hs
    have hv := hv_sound hst hy hh
    obtain ⟨c1, c2⟩ := rep_cells h2 hv
    have hsz := rep_cells_size h2 hv
    have base : ∀ (ad : Addr) (w' : World), a.eval x = .pointer (some ad) → (storeCells ad (a.eval y).cells.toList).run P w = .ok () w' → (execOp a.eval o).run P w = .ok .skip w' := by
      intro ad w' had hw
      simp [execOp, ho, had, Instr.storeAt, Instr.sureAddr, storeVar, run_sizeOf hn, hsz, h1, hw]
    split at h3
    · rename_i b off hop
      have e1 := (opd_sound hst hx hop).1
      simp only [repE, rep] at e1
      split at h3
      · rename_i cs hb
        obtain ⟨hle, hk⟩ := h3
        obtain ⟨w', r1, r2, r3⟩ := write_obj (P := P) hst.hs hb (ns := h.cells) (vs := (a.eval y).cells.toList) (off := off) (by rw [Array.length_toList, hsz, h1]; exact hle) c1 c2
        rw [base _ w' e1 (r1 0 rfl)]
        show next (a.put o.dst Go.undef) w'
        exact hK _ _ _ hk _ _ _ _ (hst.step r2 r3) (by simp [repE, rep, HV.undef]) trivial
      · exact h3.elim
    · rename_i k off hop
      have e1 := (opd_sound hst hx hop).1
      simp only [repE] at e1
      split at h3
      · rename_i cs hb
        obtain ⟨hle, hk⟩ := h3
        obtain ⟨w', r1, r2⟩ := write_box (P := P) hst hb (ns := h.cells) (vs := (a.eval y).cells.toList) (off := off) (by rw [Array.length_toList, hsz, h1]; exact hle) c1 c2
        rw [base _ w' e1 r1]
        show next (a.put o.dst Go.undef) w'
        exact hK _ _ _ hk _ _ _ _ r2 (by simp [repE, rep, HV.undef]) trivial
      · exact h3.elim
    · exact h3.elim
  · exact hs.elim

theorem st_call (hst : St ν w0 K0 H0 N e H a w K μ) (hbody : ∀ n g, ν n = some g → ∃ f, P.funcs[n]? = some f ∧ f.body.isNone = false ∧ (f.name == "runtime.NumGoroutine") = false)
    {g : Nat} {n : Nat} {hs : List HV} {us : Array Value} (hres : (execOp a.eval o).run P w = (callFunc n us).run P w) (hg : ν n = some g) (hr : repL ν K w hs us.toList)
    {Kc : EV → Env → Heap → Prop} {next : Act → World → Prop} {Q} (hsp : Spec P ν g hs H fun h H' => Kc (.h h) e H') (hK : Next' ν w0 K0 H0 N a o.dst Kc next) : o.upon P a next Q ((execOp a.eval o).run P w) := by
  obtain ⟨f, hf, hb, hn⟩ := hbody n g hg
  have hcall : (callFunc n us).run P w = .ok (.enter n us) w := by
    simp only [callFunc, Sem.run_bind, run_program, Result.andThen_ok, hf, hn, hb, Bool.false_eq_true, if_false, Sem.run_pure]
  rw [hres, hcall, Oper.upon_enter]
  have := hsp n hg w K us.toList hst.hs hr
  simp only [Array.toArray_toList] at this
  refine this.mono ?_
  rintro en w' ⟨u, h, H', K', rfl, h1, h2, h3, h4⟩
  exact hK _ _ _ h4 _ _ _ _ (hst.step h3 h2) h1 trivial

end
end Sm
