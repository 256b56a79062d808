/-
  A layer of one's own: text C.
-/
import Derived.Test.YtkephaeefknlbaaSmB
set_option linter.unusedVariables false
set_option linter.unusedSimpArgs false
set_option linter.unnecessarySimpa false
namespace Sm
open Go

def repE (ν : Nat → Option Nat) (K : Nat → Nat) (w : World) (μ : Nat → Nat) : EV → Value → Prop
  | .h x, u => rep ν K w x u
  | .lp k off, u => u = .pointer (some ⟨μ k, off, none⟩)

def EV.live (e : Env) : EV → Prop
  | .lp k _ => (e.box k).isSome = true
  | .h _ => True

def boxok (ν : Nat → Option Nat) (B : Nat) (H : Heap) (w : World) (K : Nat → Nat) (b : Nat) (cs : List HV) : Prop :=
  B ≤ b ∧ H b = none ∧ ∃ us T, w.heap[b]? = some (.cells us T (0, 0)) ∧ K b = 0 ∧ repL ν K w cs us.toList ∧ cs.all HV.one = true

structure St (ν : Nat → Option Nat) (w0 : World) (K0 : Nat → Nat) (H0 : Heap) (N : Nat) (e : Env) (H : Heap) (a : Act) (w : World) (K : Nat → Nat) (μ : Nat → Nat) : Prop where
  hs : hsat ν w K H
  sz : a.tmps.size = N
  df : a.defers = []
  slot : ∀ t x, e.get t = some x → repE ν K w μ x (a.tmps.getD t undef) ∧ x.live e
  box : ∀ k cs, e.box k = some cs → boxok ν w0.heap.size H w K (μ k) cs
  inj : ∀ k k' cs cs', e.box k = some cs → e.box k' = some cs' → μ k = μ k' → k = k'
  ext : Ext w0 K0 H0 w K H

def Spec (P : Program) (ν : Nat → Option Nat) : SpecT := fun g args H Q =>
  ∀ n, ν n = some g → ∀ w K us, hsat ν w K H → repL ν K w args us →
    Calls P n us.toArray w fun en w' => ∃ u h H' K', en = .returned u ∧ rep ν K' w' h u ∧ hsat ν w' K' H' ∧ Ext w K H w' K' H' ∧ Q h H'

theorem repE.grow {ν K w K' w' μ} (hg : Grow w K w' K') : ∀ (x : EV) {u}, repE ν K w μ x u → repE ν K' w' μ x u
  | .h x, u, h => rep.grow hg x h
  | .lp k o, u, h => h

theorem put_same {e : Env} {t : Nat} {x : EV} (h : e.get t = some x) : e.put (some t) x = e := by
  cases e with
  | mk sl bx =>
    simp only [Env.put, Env.get] at h ⊢
    congr 1
    funext i
    simp only [upd]
    split
    · rename_i hi; subst hi; exact h.symm
    · rfl

theorem lt_of_heap {w : World} {b : Nat} {o : Obj} (h : w.heap[b]? = some o) : b < w.heap.size := by
  rcases Nat.lt_or_ge b w.heap.size with h' | h'
  · exact h'
  · rw [Array.getElem?_eq_none h'] at h; cases h

section
variable {ν : Nat → Option Nat} {w0 : World} {K0 : Nat → Nat} {H0 : Heap} {N : Nat} {e : Env} {H : Heap} {a : Act} {w : World} {K μ : Nat → Nat}

theorem St.put (h : St ν w0 K0 H0 N e H a w K μ) {d : Option Nat} {x : EV} {u : Value} (hd : ∀ t, d = some t → t < N) (hr : repE ν K w μ x u) (hl : x.live e) :
    St ν w0 K0 H0 N (e.put d x) H (a.put d u) w K μ := by
  cases d with
  | none => exact h
  | some t =>
    have ht := hd t rfl
    refine ⟨h.hs, by simpa [Act.put] using h.sz, by simpa [Act.put] using h.df, ?_, h.box, h.inj, h.ext⟩
    intro s y hy
    simp only [Env.get, Env.put, upd] at hy
    have hlive : ∀ z : EV, z.live e → z.live (e.put (some t) x) := by
      intro z hz; cases z <;> simpa [EV.live, Env.put, Env.box] using hz
    by_cases hst : t = s
    · subst hst
      simp only [if_true, Option.some.injEq] at hy
      subst hy
      refine ⟨?_, hlive _ hl⟩
      have hsz := h.sz
      simp only [Act.put, Array.getD_eq_getD_getElem?]
      rw [Array.getElem?_setIfInBounds_self_of_lt (by omega)]
      simpa using hr
    · rw [if_neg hst] at hy
      obtain ⟨h1, h2⟩ := h.slot s y hy
      refine ⟨?_, hlive _ h2⟩
      simp only [Act.put, Array.getD_eq_getD_getElem?] at h1 ⊢
      rw [Array.getElem?_setIfInBounds_ne hst]
      exact h1

/-- The world has grown; nothing of the abstract state has turned. -/
theorem St.step {w' : World} {K' : Nat → Nat} {H' : Heap} (h : St ν w0 K0 H0 N e H a w K μ) (hx : Ext w K H w' K' H') (hs' : hsat ν w' K' H') :
    St ν w0 K0 H0 N e H' a w' K' μ := by
  refine ⟨hs', h.sz, h.df, fun t x hx' => ⟨(h.slot t x hx').1.grow hx.grow, (h.slot t x hx').2⟩, fun k cs hk => ?_, h.inj, h.ext.trans hx⟩
  obtain ⟨h1, h2, us, T, h3, h4, h5, h6⟩ := h.box k cs hk
  obtain ⟨s1, s2, s3⟩ := hx.same _ (lt_of_heap h3) h2
  exact ⟨h1, s3, us, T, s1.trans h3, s2.trans h4, h5.grow hx.grow, h6⟩

theorem Ext.draw (w : World) (K : Nat → Nat) (H : Heap) (n : Nat) : Ext w K H { w with drawn := n } K H :=
  ⟨rfl, rfl, rfl, Nat.le_refl _, ⟨fun _ => Nat.le_refl _, fun _ _ _ => rfl⟩, fun _ _ h => ⟨rfl, rfl, h⟩, fun _ h => h⟩
theorem hsat.draw {n : Nat} (h : hsat ν w K H) : hsat ν { w with drawn := n } K H := by
  refine ⟨fun b r hb => ?_, h.fresh⟩
  have hg : Grow w K { w with drawn := n } K := ⟨fun _ => Nat.le_refl _, fun _ _ _ => rfl⟩
  have h1 := h.res b r hb
  cases r with
  | obj cs => obtain ⟨us, T, h2, h3, h4, h5⟩ := h1; exact ⟨us, T, h2, h3, h4.grow hg, h5⟩
  | tip t c => exact h1
theorem St.draw {n : Nat} (h : St ν w0 K0 H0 N e H a w K μ) : St ν w0 K0 H0 N e H a { w with drawn := n } K μ := h.step (Ext.draw w K H n) h.hs.draw

theorem resok.move {w' : World} {K' : Nat → Nat} {b : Nat} {r : Res} (hg : Grow w K w' K') (hb : w'.heap[b]? = w.heap[b]?) (hk : K' b = K b) (h : resok ν K w b r) : resok ν K' w' b r := by
  cases r with
  | obj cs => obtain ⟨us, T, h2, h3, h4, h5⟩ := h; exact ⟨us, T, hb.trans h2, hk.trans h3, h4.grow hg, h5⟩
  | tip t c => obtain ⟨us, T, h2, h3, h4⟩ := h; exact ⟨us, T, hb.trans h2, hk.trans h3, h4⟩

theorem heap_push_lt (o : Obj) {b : Nat} (h : b < w.heap.size) : (w.alloc o).heap[b]? = w.heap[b]? := heap_alloc_old w o b h
theorem cell_push (o : Obj) {b j : Nat} (h : b < w.heap.size) : (w.alloc o).cell? ⟨b, j, none⟩ = w.cell? ⟨b, j, none⟩ := World.cell?_alloc_lt w o _ h
theorem cell_none {b : Nat} (h : w.heap.size ≤ b) (j : Nat) : w.cell? ⟨b, j, none⟩ = none := by simp [World.cell?, Array.getElem?_eq_none h]

theorem grow_push (hs : hsat ν w K H) (o : Obj) : Grow w K (w.alloc o) K :=
  ⟨fun _ => Nat.le_refl _, fun b j hj => by
    rcases Nat.lt_or_ge b w.heap.size with h | h
    · exact cell_push o h
    · rw [hs.fresh b h] at hj; omega⟩

/-- A new block that nobody writes any more. -/
theorem push_commit (hs : hsat ν w K H) (us : Array Value) (T : TypeId) (n : Nat) (hn : n ≤ us.size) :
    Ext w K H (w.alloc (.cells us T)) (fun b => if b = w.heap.size then n else K b) H ∧ hsat ν (w.alloc (.cells us T)) (fun b => if b = w.heap.size then n else K b) H := by
  have hg : Grow w K (w.alloc (.cells us T)) (fun b => if b = w.heap.size then n else K b) :=
    ⟨fun b => by by_cases h : b = w.heap.size <;> simp [h, hs.fresh], fun b j hj => (grow_push hs _).cell b j hj⟩
  refine ⟨⟨rfl, rfl, rfl, by simp, hg, fun b hb hH => ⟨heap_push_lt _ hb, by rw [if_neg (by omega)], hH⟩, fun a ha => (RowKit.frozen?_alloc_cells _ _ _ a).trans ha⟩, ⟨fun b r hb => ?_, fun b hb => ?_⟩⟩
  · have hlt := hs.lt hb
    exact (hs.res b r hb).move hg (heap_push_lt _ hlt) (by rw [if_neg (by omega)])
  · simp only [World.size_alloc] at hb
    rw [if_neg (by omega)]; exact hs.fresh b (by omega)

/-- A new object. -/
theorem push_obj (hs : hsat ν w K H) (us : Array Value) (T : TypeId) (cs : List HV) (hr : repL ν K w cs us.toList) (h1 : cs.all HV.one = true) :
    Ext w K H (w.alloc (.cells us T)) K (H.upd w.heap.size (some (.obj cs))) ∧ hsat ν (w.alloc (.cells us T)) K (H.upd w.heap.size (some (.obj cs))) := by
  have hg := grow_push hs (.cells us T)
  refine ⟨⟨rfl, rfl, rfl, by simp, hg, fun b hb hH => ⟨heap_push_lt _ hb, rfl, by rw [Heap.upd, if_neg (by omega)]; exact hH⟩, fun a ha => (RowKit.frozen?_alloc_cells _ _ _ a).trans ha⟩, ⟨fun b r hb => ?_, fun b hb => ?_⟩⟩
  · by_cases h : b = w.heap.size
    · subst h
      simp only [Heap.upd, if_true, Option.some.injEq] at hb
      subst hb
      exact ⟨us, T, heap_alloc_new w _, hs.fresh _ (Nat.le_refl _), hr.grow hg, h1⟩
    · rw [Heap.upd, if_neg h] at hb
      exact (hs.res b r hb).move hg (heap_push_lt _ (hs.lt hb)) rfl
  · simp only [World.size_alloc] at hb
    exact hs.fresh b (by omega)

/-- A new growing row. -/
theorem push_tip (hs : hsat ν w K H) (us : Array Value) (T : TypeId) (n c : Nat) (hn : n ≤ us.size) (hc : c ≤ us.size) :
    Ext w K H (w.alloc (.cells us T)) (fun b => if b = w.heap.size then n else K b) (H.upd w.heap.size (some (.tip n c))) ∧
    hsat ν (w.alloc (.cells us T)) (fun b => if b = w.heap.size then n else K b) (H.upd w.heap.size (some (.tip n c))) := by
  obtain ⟨h1, h2⟩ := push_commit hs us T n hn
  refine ⟨⟨rfl, rfl, rfl, by simp, h1.grow, fun b hb hH => ⟨heap_push_lt _ hb, by rw [if_neg (by omega)], by rw [Heap.upd, if_neg (by omega)]; exact hH⟩, fun a ha => (RowKit.frozen?_alloc_cells _ _ _ a).trans ha⟩, ⟨fun b r hb => ?_, h2.fresh⟩⟩
  by_cases h : b = w.heap.size
  · subst h
    simp only [Heap.upd, if_true, Option.some.injEq] at hb
    subst hb
    exact ⟨us, T, heap_alloc_new w _, by simp, hn, hc⟩
  · rw [Heap.upd, if_neg h] at hb
    exact h2.res b r hb

/-- A new private box. -/
theorem St.newbox (h : St ν w0 K0 H0 N e H a w K μ) (us : Array Value) (T : TypeId) (k : Nat) (cs : List HV) (hk : e.box k = none) (hr : repL ν K w cs us.toList) (h1 : cs.all HV.one = true) :
    St ν w0 K0 H0 N (e.setb k cs) H a (w.alloc (.cells us T)) K (fun i => if i = k then w.heap.size else μ i) := by
  have hg := grow_push h.hs (.cells us T)
  have hs' : hsat ν (w.alloc (.cells us T)) K H := ⟨fun b r hb => (h.hs.res b r hb).move hg (heap_push_lt _ (h.hs.lt hb)) rfl, fun b hb => h.hs.fresh b (by simp at hb; omega)⟩
  have hx : Ext w K H (w.alloc (.cells us T)) K H := ⟨rfl, rfl, rfl, by simp, hg, fun b hb hH => ⟨heap_push_lt _ hb, rfl, hH⟩, fun a ha => (RowKit.frozen?_alloc_cells _ _ _ a).trans ha⟩
  have h2 := h.step hx hs'
  refine ⟨hs', h.sz, h.df, fun t x hx' => ?_, fun i cs' hi => ?_, fun i j c c' hi hj hij => ?_, h2.ext⟩
  · obtain ⟨s1, s2⟩ := h2.slot t x hx'
    cases x with
    | h x => exact ⟨s1, trivial⟩
    | lp i o =>
      have hne : i ≠ k := by rintro rfl; simp [EV.live, hk] at s2
      refine ⟨by simpa [repE, hne] using s1, ?_⟩
      simp only [EV.live, Env.setb, Env.box, upd] at s2 ⊢
      rw [if_neg (fun e => hne e.symm)]; exact s2
  · simp only [Env.setb, Env.box, upd] at hi
    by_cases hik : k = i
    · subst hik
      simp only [if_true, Option.some.injEq] at hi
      subst hi
      refine ⟨by simpa using h.ext.size, by simpa using h.hs.none_new (Nat.le_refl _), us, T, by simpa using heap_alloc_new w _, by simpa using h.hs.fresh _ (Nat.le_refl _), hr.grow hg, h1⟩
    · rw [if_neg hik] at hi
      have := h2.box i cs' hi
      have hki : ¬ i = k := fun e => hik e.symm
      simpa [hki] using this
  · have lt : ∀ i c, e.box i = some c → μ i < w.heap.size := fun i c hi => by
      obtain ⟨_, _, us, T, h3, _⟩ := h.box i c hi
      exact lt_of_heap h3
    simp only [Env.setb, Env.box, upd] at hi hj
    by_cases hik : k = i <;> by_cases hjk : k = j
    · exact hik.symm.trans hjk
    · rw [if_neg hjk] at hj
      have := lt j _ hj
      have hkj : ¬ j = k := fun e => hjk e.symm
      simp only [hik.symm, if_true, if_neg hkj] at hij; omega
    · rw [if_neg hik] at hi
      have := lt i _ hi
      have hki : ¬ i = k := fun e => hik e.symm
      simp only [hjk.symm, if_true, if_neg hki] at hij; omega
    · rw [if_neg hik] at hi; rw [if_neg hjk] at hj
      have hkj : ¬ j = k := fun e => hjk e.symm
      have hki : ¬ i = k := fun e => hik e.symm
      simp only [if_neg hkj, if_neg hki] at hij
      exact h.inj i j _ _ hi hj hij

end
end Sm
