/-
  A layer of one's own: text M.
-/
import Derived.Test.YtkephaeefknlbaaSmL
set_option linter.unusedVariables false
set_option linter.unusedSimpArgs false
set_option linter.unnecessarySimpa false
namespace Sm
open Go

section
variable {P : Program} {ν : Nat → Option Nat} {w0 : World} {K0 : Nat → Nat} {H0 : Heap} {N : Nat} {e : Env} {H : Heap} {a : Act} {w : World} {K μ : Nat → Nat} {o : Oper}

theorem sub_none {H H' : Heap} (h : H'.sub H) {b : Nat} (hb : H b = none) : H' b = none := by
  cases hh : H' b with
  | none => rfl
  | some r => obtain ⟨r', h1, _⟩ := h b r hh; rw [h1] at hb; cases hb
theorem sub_refl (H : Heap) : H.sub H := fun _ r h => ⟨r, h, .inl rfl⟩

theorem Ext.sub {w' : World} {K' : Nat → Nat} {H' H'' : Heap} (h : Ext w K H w' K' H') (hs : H''.sub H') : Ext w K H w' K' H'' :=
  ⟨h.os, h.tape, h.output, h.size, h.grow, fun b hb hH => by obtain ⟨h1, h2, h3⟩ := h.same b hb hH; exact ⟨h1, h2, sub_none hs h3⟩, h.fz⟩
theorem St.sub (hst : St ν w0 K0 H0 N e H a w K μ) {H' : Heap} (h : H'.sub H) : St ν w0 K0 H0 N e H' a w K μ :=
  ⟨hsat_sub hst.hs h, hst.sz, hst.df, hst.slot, fun k cs hk => by obtain ⟨h1, h2, h3⟩ := hst.box k cs hk; exact ⟨h1, sub_none h h2, h3⟩, hst.inj, hst.ext.sub h⟩
theorem St.le (hst : St ν w0 K0 H0 N e H a w K μ) {e' : Env} (h : e'.le e) : St ν w0 K0 H0 N e' H a w K μ := by
  refine ⟨hst.hs, hst.sz, hst.df, fun t x hx => ?_, fun k cs hk => ?_, fun i j c c' hi hj => ?_, hst.ext⟩
  · obtain ⟨x', h1, h2⟩ := h.sl t x hx
    obtain ⟨s1, s2⟩ := hst.slot t x' h1
    rcases h2 with rfl | h2
    · refine ⟨s1, ?_⟩
      cases x' with
      | h x => trivial
      | lp k o => exact h.lp t k o hx
    · cases x' <;> cases x <;> simp only [EWeak] at h2
      exact ⟨h2 _ _ _ _ s1, trivial⟩
  · obtain ⟨cs', h1, h2⟩ := h.bx k cs hk
    have h3 := hst.box k cs' h1
    rcases h2 with rfl | h2
    · exact h3
    · obtain ⟨g1, g2, us, T, g3, g4, g5, g6⟩ := h3
      exact ⟨g1, g2, us, T, g3, g4, repL_weak h2.1 g5, h2.2⟩
  · obtain ⟨c1, h1, _⟩ := h.bx i c hi
    obtain ⟨c2, h2, _⟩ := h.bx j c' hj
    exact hst.inj i j c1 c2 h1 h2

theorem run_append_room' {t ty el T : TypeId} {i : TypeInfo} (ht : P.underlying t = some (.slice el)) (hi : P.info? el = some i)
    (g sLen sCap : Nat) (cur : Array Value) (hg : w.heap[g]? = some (.cells cur T (0, 0)))
    (ad : Addr) (m c : Nat) (news : List Value) (hl : news.length = m * i.size) (hnews : ∀ j u, news[j]? = some u → w.cell? (ad.add j) = some u) (h1 : ∀ u ∈ news, u.oneCell' = true)
    (hroom : sLen + m ≤ sCap) (hfit : sLen * i.size + news.length ≤ cur.size) :
    (Builtin.append_ #[t, t] ty #[.slice (some ⟨g, 0, none⟩) sLen sCap, .slice (some ad) m c]).run P w =
      .ok (.slice (some ⟨g, 0, none⟩) (sLen + m) sCap) (w.setRow g (cur.toList.take (sLen * i.size) ++ news ++ cur.toList.drop (sLen * i.size + news.length)).toArray) := by
  have hf := run_firstCells_some (P := P) w i.size m ad m c news hl hnews
  have hst := run_storeCells_at P g (sLen * i.size) T news 0 cur w hg (by simpa using hfit) h1
  simp only [Nat.add_zero] at hst
  simp [Builtin.append_, run_underlying ht, Go.sizeOf, typeInfo, hi, Builtin.lenOf, hroom, hf, addr_add, hst]

/-- A row that grows in its place. -/
theorem app_room (hst : St ν w0 K0 H0 N e H a w K μ) {b n m c sz : Nat} {us : Array Value} {T : TypeId} {news : List Value} (hb : w.heap[b]? = some (.cells us T (0, 0))) (hH : H b = some (.tip (n * sz) (c * sz))) (hKb : K b = n * sz) (hcs : c * sz ≤ us.size)
    (hl : news.length = m * sz) (hroom : n + m ≤ c) :
    St ν w0 K0 H0 N e ((H.upd b none).upd b (some (.tip ((n + m) * sz) (c * sz)))) a (w.setRow b (us.toList.take (n * sz) ++ news ++ us.toList.drop (n * sz + news.length)).toArray) (fun x => if x = b then (n + m) * sz else K x) μ ∧
    Grow w K (w.setRow b (us.toList.take (n * sz) ++ news ++ us.toList.drop (n * sz + news.length)).toArray) (fun x => if x = b then (n + m) * sz else K x) := by
  have hle : (n + m) * sz ≤ c * sz := Nat.mul_le_mul_right _ hroom
  have hadd : (n + m) * sz = n * sz + m * sz := Nat.add_mul _ _ _
  have hul : us.toList.length = us.size := Array.length_toList
  have hg : Grow w K (w.setRow b (us.toList.take (n * sz) ++ news ++ us.toList.drop (n * sz + news.length)).toArray) (fun x => if x = b then (n + m) * sz else K x) := by
    refine ⟨fun x => ?_, fun x j hj => ?_⟩
    · by_cases h : x = b
      · subst h; simp only [if_true]; omega
      · simp [h]
    · by_cases h : x = b
      · subst h
        rw [hKb] at hj
        rw [cell_of_row w x j us T (0, 0) hb, cell_of_row _ x j _ T (0, 0) (setRow_heap w x us _ T _ hb)]
        simp only [List.getElem?_toArray]
        rw [List.append_assoc, List.getElem?_append_left (by rw [List.length_take]; omega), List.getElem?_take, if_pos hj]
        simp
      · exact cell_setRow_other w b _ _ h
  have hsz : (us.toList.take (n * sz) ++ news ++ us.toList.drop (n * sz + news.length)).toArray.size = us.size := by
    simp only [List.size_toArray, List.length_append, List.length_take, List.length_drop]; omega
  have hx : Ext w K H (w.setRow b (us.toList.take (n * sz) ++ news ++ us.toList.drop (n * sz + news.length)).toArray) (fun x => if x = b then (n + m) * sz else K x) ((H.upd b none).upd b (some (.tip ((n + m) * sz) (c * sz)))) := by
    refine ⟨rfl, rfl, rfl, by simp, hg, fun x hx hn => ?_, fun a ha => (fz_setRow hb a).trans ha⟩
    have hne : x ≠ b := by rintro rfl; rw [hH] at hn; cases hn
    exact ⟨setRow_other w b x _ hne, by simp [hne], by simp [Heap.upd, hne, hn]⟩
  refine ⟨hst.step hx ⟨fun x r hr => ?_, fun x hx' => ?_⟩, hg⟩
  · by_cases h : x = b
    · subst h
      simp only [Heap.upd, if_true, Option.some.injEq] at hr; subst hr
      exact ⟨_, T, setRow_heap w x us _ T _ hb, by simp, by rw [hsz]; omega, by rw [hsz]; exact hcs⟩
    · simp only [Heap.upd, if_neg h] at hr
      exact (hst.hs.res x r hr).move hg (setRow_other w b x _ h) (by simp [h])
  · have := lt_of_heap hb
    simp only [size_setRow] at hx'
    rw [if_neg (by omega)]; exact hst.hs.fresh x hx'

theorem st_app (hst : St ν w0 K0 H0 N e H a w K μ) {c : Call} {x y : Operand} {t el : TypeId} {i : TypeInfo} {z : Value} {sz bytes : Nat} {x' y' : Opd} (ho : o.op = .call c) (hc : c.callee = .builtin .append) (hargs : c.args.toList = [x, y]) (hts : c.argTypes.toList = [t, t])
    (hT : Sm.elemOf P t = some el) (hi : P.info? el = some i) (hisz : i.size = sz) (hby : i.bytes = bytes) (h0 : 0 < sz) (hb0 : 0 < bytes) (hz : i.zero = some z) (hzs : z.cells.size = sz) (hx : okOpd ν x x' = true) (hy : okOpd ν y y' = true)
    {Kc} {next : Act → World → Prop} {Q} (hs : (SOp.app sz bytes x' y').step (Spec P ν) e H Kc) (hK : Next' ν w0 K0 H0 N a o.dst Kc next) : o.upon P a next Q ((execOp a.eval o).run P w) := by
  have ha := arr2 hargs
  have ht := arr2 hts
  have hu := elemOf_under hT
  have base : ∀ u w', (Builtin.append_ #[t, t] o.type #[a.eval x, a.eval y]).run P w = .ok u w' → (execOp a.eval o).run P w = .ok (.value u) w' := by
    intro u w' h
    simp [execOp, ho, resolve, hc, ha, ht, invoke, builtin, h]
  simp only [SOp.step] at hs
  -- what stands in the source
  have hsrc : ∀ sz' ys, (e.hv y').bind rdv = some (sz', ys) → ∃ A c vals, a.eval y = .slice A ys.length c ∧ ys.all HV.el = true ∧ (∀ y ∈ ys, y.ncells = sz') ∧ repL ν K w ys vals ∧
      (ys = [] ∨ ∃ b off, A = some ⟨b, off, none⟩ ∧ off + ys.length * sz' ≤ K b ∧ cellsAt w b off (flat vals)) := by
    intro sz' ys h
    obtain ⟨h', h1, h2⟩ := Option.bind_eq_some_iff.1 h
    exact rdv_sound (hv_sound hst hy h1) h2
  have hbl : ∀ k, k * bytes ≤ 140737488355328 → k ≤ 140737488355328 := fun k hk => Nat.le_trans (Nat.le_mul_of_pos_right k hb0) hk
  have hzc : ∀ k, (Builtin.zeroCells z.cells k).toList.length = k * sz := fun k => by rw [Array.length_toList, size_zeroCells, hzs]
  split at hs
  · -- nil
    rename_i sz' ys hx1 hy1
    have e1 := hv_sound hst hx hx1
    simp only [rep] at e1
    obtain ⟨A, cc, vals, f1, f2, f3, f4, f5⟩ := hsrc _ _ hy1
    obtain ⟨s1, s2, s3⟩ := hs
    by_cases hys : ys = []
    · have hr := run_append_zero (P := P) (w := w) (ty := o.type) hu hi (A := none) (B := A) (n := 0) (c := 0) (c' := cc) (Nat.le_refl _)
      rw [base _ _ (by rw [e1, f1, hys]; exact hr)]
      apply upon_value
      exact hK _ _ _ (s2 hys) _ _ _ _ hst (by simp [repE, rep]) trivial
    · obtain ⟨s4, s5⟩ := s3 hys
      have hszz := s1 hys; subst hszz
      rcases f5 with f5 | ⟨b, off, rfl, f6, f7⟩
      · exact absurd f5 hys
      · have hfl := flat_length f4 f2 f3
        have hpos : 0 < ys.length := List.length_pos_iff.2 hys
        have hb1 := hbl _ s4
        have hr := run_append_nil (P := P) w t o.type el i z hu hi hz ⟨b, off, none⟩ ys.length cc (flat vals) (by rw [hfl, hisz]) (cellsAt_add f7) hpos (by omega) (by rw [hby]; omega)
        rw [base _ _ (by rw [e1, f1]; exact hr)]
        apply upon_value
        have hge := grownCap_ge w ys.length 0 el
        obtain ⟨K', n1, n2⟩ := app_new (el := el) (sz := sz') (c := grownCap w ys.length 0 el) (xs := []) (vx := []) (z := (Builtin.zeroCells z.cells (grownCap w ys.length 0 el - ys.length)).toList) hst (by simp [repL]) f4 rfl f2 (by simp) f3 (by rw [hzc]; simp) (by simpa using hge)
          (grownCap_le_maxLen w _ 0 el (by simp only [maxLen]; omega))
        simp only [List.length_nil, Nat.zero_add, List.nil_append, flat, List.flatMap_nil] at n1 n2
        have hw : (w.drew.alloc (.cells ((flat vals).toArray ++ Builtin.zeroCells z.cells (grownCap w ys.length 0 el - ys.length)) el)) = w.drew.alloc (.cells ((flat vals) ++ (Builtin.zeroCells z.cells (grownCap w ys.length 0 el - ys.length)).toList).toArray el) := by
          congr 2; apply Array.toList_inj.1; simp
        rw [hw]
        exact hK _ _ _ (s5 w.heap.size _ (hst.hs.none_new (Nat.le_refl _))) _ _ _ _ n1 n2 trivial
  · -- full
    rename_i sz1 xs sz' ys hx1 hy1
    have e1 := hv_sound hst hx hx1
    obtain ⟨rfl, s1, s2, s3⟩ := hs
    have e1' := e1
    simp only [rep] at e1
    obtain ⟨A1, cap, valsx, g1, g2, g3, g4, g5, g6, g7, g8⟩ := e1
    simp only [tkok] at g4
    subst g4
    obtain ⟨A, cc, vals, f1, f2, f3, f4, f5⟩ := hsrc _ _ hy1
    by_cases hys : ys = []
    · have hr := run_append_zero (P := P) (w := w) (ty := o.type) hu hi (A := A1) (B := A) (n := xs.length) (c := xs.length) (c' := cc) (Nat.le_refl _)
      rw [base _ _ (by rw [g1, f1, hys]; exact hr)]
      apply upon_value
      exact hK _ _ _ (s2 hys) _ _ _ _ hst (by simp only [repE]; rw [← g1]; exact e1') trivial
    · obtain ⟨s4, s5⟩ := s3 hys
      have hszz := s1 hys; subst hszz
      rcases f5 with f5 | ⟨b, off, rfl, f6, f7⟩
      · exact absurd f5 hys
      · have hfl := flat_length f4 f2 f3
        have hflx := flat_length g7 g5 g6
        have hpos : 0 < ys.length := List.length_pos_iff.2 hys
        have hb1 := hbl _ s4
        cases A1 with
        | none =>
          have hxs : xs = [] := by
            rcases g8 with g8 | ⟨_, _, hA, _⟩
            · exact g8
            · cases hA
          subst hxs
          simp only [List.length_nil, Nat.zero_add] at s4 g1
          have hr := run_append_nil (P := P) w t o.type el i z hu hi hz ⟨b, off, none⟩ ys.length cc (flat vals) (by rw [hfl, hisz]) (cellsAt_add f7) hpos (by omega) (by rw [hby]; omega)
          rw [base _ _ (by rw [g1, f1]; exact hr)]
          apply upon_value
          have hge := grownCap_ge w ys.length 0 el
          obtain ⟨K', n1, n2⟩ := app_new (el := el) (sz := sz') (c := grownCap w ys.length 0 el) (xs := []) (vx := []) (z := (Builtin.zeroCells z.cells (grownCap w ys.length 0 el - ys.length)).toList) hst (by simp [repL]) f4 rfl f2 (by simp) f3 (by rw [hzc]; simp) (by simpa using hge)
            (grownCap_le_maxLen w _ 0 el (by simp only [maxLen]; omega))
          have hw : (w.drew.alloc (.cells ((flat vals).toArray ++ Builtin.zeroCells z.cells (grownCap w ys.length 0 el - ys.length)) el)) = w.drew.alloc (.cells (flat [] ++ (flat vals) ++ (Builtin.zeroCells z.cells (grownCap w ys.length 0 el - ys.length)).toList).toArray el) := by
            congr 2; apply Array.toList_inj.1; simp [flat]
          rw [hw]
          have hk := s5 w.heap.size (grownCap w ys.length 0 el) (hst.hs.none_new (Nat.le_refl _))
          refine hK _ _ _ hk _ _ _ _ n1 ?_ trivial
          simp only [repE]
          simpa using n2
        | some ad =>
          have holds : ∀ j u, (flat valsx)[j]? = some u → w.cell? (ad.add j) = some u := by
            rcases g8 with g8 | ⟨b', off', hA, _, hcell⟩
            · subst g8; simp [repL] at g7; subst g7; simp [flat]
            · simp only [Option.some.injEq] at hA; subst hA; exact cellsAt_add hcell
          have hr := run_append_grow (P := P) w t o.type el i z hu hi hz ad xs.length xs.length (flat valsx) (by rw [hflx, hisz]) holds ⟨b, off, none⟩ ys.length cc (flat vals) (by rw [hfl, hisz]) (cellsAt_add f7) (by omega) (by omega) (by
            rw [hby]; exact growslice_fits (by omega) s4)
          rw [base _ _ (by rw [g1, f1]; exact hr)]
          apply upon_value
          have hge := grownCap_ge w (xs.length + ys.length) xs.length el
          obtain ⟨K', n1, n2⟩ := app_new (el := el) (sz := sz') (c := grownCap w (xs.length + ys.length) xs.length el) (z := (Builtin.zeroCells z.cells (grownCap w (xs.length + ys.length) xs.length el - (xs.length + ys.length))).toList) hst g7 f4 g5 f2 g6 f3 (by rw [hzc]) hge
            (grownCap_le_maxLen w _ _ el (by simp only [maxLen]; omega))
          have hw : (w.drew.alloc (.cells ((flat valsx).toArray ++ (flat vals).toArray ++ Builtin.zeroCells z.cells (grownCap w (xs.length + ys.length) xs.length el - (xs.length + ys.length))) el)) = w.drew.alloc (.cells (flat valsx ++ (flat vals) ++ (Builtin.zeroCells z.cells (grownCap w (xs.length + ys.length) xs.length el - (xs.length + ys.length))).toList).toArray el) := by
            congr 2; apply Array.toList_inj.1; simp
          rw [hw]
          exact hK _ _ _ (s5 w.heap.size _ (hst.hs.none_new (Nat.le_refl _))) _ _ _ _ n1 n2 trivial
  · -- at its tip
    rename_i b c1 sz1 xs sz' ys hx1 hy1
    have e1 := hv_sound hst hx hx1
    obtain ⟨rfl, s1, s2, s3, s4⟩ := hs
    have e1' := e1
    simp only [rep] at e1
    obtain ⟨A1, cap, valsx, g1, g2, g3, g4, g5, g6, g7, g8⟩ := e1
    simp only [tkok] at g4
    obtain ⟨rfl, rfl⟩ := g4
    obtain ⟨A, cc, vals, f1, f2, f3, f4, f5⟩ := hsrc _ _ hy1
    obtain ⟨us, T, t1, t2, t3, t4⟩ := hst.hs.res b _ s2
    have hflx := flat_length g7 g5 g6
    have hcellx : cellsAt w b 0 (flat valsx) := by
      rcases g8 with g8 | ⟨b', off', hA, _, hcell⟩
      · subst g8; simp [repL] at g7; subst g7; intro j x hj; simp [flat] at hj
      · simp only [Option.some.injEq, Addr.mk.injEq, and_true] at hA
        obtain ⟨rfl, rfl⟩ := hA; exact hcell
    by_cases hys : ys = []
    · subst hys
      have hr := run_append_zero (P := P) (w := w) (ty := o.type) hu hi (A := some ⟨b, 0, none⟩) (B := A) (n := xs.length) (c := cap) (c' := cc) g2
      rw [base _ _ (by rw [g1, f1]; exact hr)]
      apply upon_value
      have hk := s4 b cap (.inl rfl)
      have hH : (H.upd b none).upd b (some (.tip ((xs.length + 0) * sz1) (cap * sz1))) = H := by
        funext q
        simp only [Heap.upd]
        split
        · rename_i hq; subst hq; rw [s2]; simp
        · rfl
      simp only [List.length_nil, List.append_nil] at hk
      rw [hH] at hk
      exact hK _ _ _ hk _ _ _ _ hst (by simp only [repE]; rw [← g1]; exact e1') trivial
    · have hszz := s1 hys; subst hszz
      rcases f5 with f5 | ⟨b2, off, rfl, f6, f7⟩
      · exact absurd f5 hys
      · have hfl := flat_length f4 f2 f3
        have hpos : 0 < ys.length := List.length_pos_iff.2 hys
        have hb1 := hbl _ s3
        by_cases hroom : xs.length + ys.length ≤ cap
        · have hle : (xs.length + ys.length) * sz' ≤ cap * sz' := Nat.mul_le_mul_right _ hroom
          have hr := run_append_room' (P := P) (ty := o.type) hu hi b xs.length cap us t1 ⟨b2, off, none⟩ ys.length cc (flat vals) (by rw [hfl, hisz]) (cellsAt_add f7) (flat_one f4 f2) hroom (by rw [hfl, hisz]; rw [Nat.add_mul] at hle; omega)
          rw [hisz] at hr
          rw [base _ _ (by rw [g1, f1]; exact hr)]
          apply upon_value
          obtain ⟨r1, r2⟩ := app_room (sz := sz') hst t1 s2 t2 t4 hfl hroom
          refine hK _ _ _ (s4 b cap (.inl rfl)) _ _ _ _ r1 ?_ trivial
          simp only [repE]
          refine grow_rep_new (vals := valsx ++ vals) (setRow_heap w b us _ T _ t1) (by rw [List.all_append, g5, f2]; rfl) (fun h hh => (List.mem_append.1 hh).elim (g6 h) (f3 h)) ((repL_append g7 f4).grow r2) ?_ (by simp) (by simp) (by simpa using hroom) g3 (by simp [tkok])
          have hvx : us.toList.take (xs.length * sz') = flat valsx := by
            apply List.ext_getElem?
            intro j
            rcases Nat.lt_or_ge j (xs.length * sz') with hj | hj
            · have h5 : (flat valsx)[j]? = some ((flat valsx)[j]'(by omega)) := List.getElem?_eq_getElem (by omega)
              have h6 := hcellx j _ h5
              rw [cell_of_row w b _ us T (0, 0) t1] at h6
              simp only [Nat.zero_add] at h6
              rw [List.getElem?_take, if_pos hj, h5]
              simpa using h6
            · rw [List.getElem?_eq_none (by rw [List.length_take]; omega), List.getElem?_eq_none (by omega)]
          rw [hvx]
          simp only [List.length_append]
          rw [show (xs.length + ys.length) * sz' = (flat valsx ++ flat vals).length by rw [List.length_append, hflx, hfl, Nat.add_mul], show flat (valsx ++ vals) = flat valsx ++ flat vals by simp [flat]]
          exact List.take_left
        · have hr := run_append_grow (P := P) w t o.type el i z hu hi hz ⟨b, 0, none⟩ xs.length cap (flat valsx) (by rw [hflx, hisz]) (cellsAt_add hcellx) ⟨b2, off, none⟩ ys.length cc (flat vals) (by rw [hfl, hisz]) (cellsAt_add f7) (by omega) (by omega) (by
            rw [hby]; exact growslice_fits (by omega) s3)
          rw [base _ _ (by rw [g1, f1]; exact hr)]
          apply upon_value
          have hge := grownCap_ge w (xs.length + ys.length) cap el
          obtain ⟨K', n1, n2⟩ := app_new (el := el) (sz := sz') (c := grownCap w (xs.length + ys.length) cap el) (z := (Builtin.zeroCells z.cells (grownCap w (xs.length + ys.length) cap el - (xs.length + ys.length))).toList) hst g7 f4 g5 f2 g6 f3 (by rw [hzc]) hge
            (grownCap_le_maxLen w _ _ el (by simp only [maxLen]; omega))
          have hw : (w.drew.alloc (.cells ((flat valsx).toArray ++ (flat vals).toArray ++ Builtin.zeroCells z.cells (grownCap w (xs.length + ys.length) cap el - (xs.length + ys.length))) el)) = w.drew.alloc (.cells (flat valsx ++ (flat vals) ++ (Builtin.zeroCells z.cells (grownCap w (xs.length + ys.length) cap el - (xs.length + ys.length))).toList).toArray el) := by
            congr 2; apply Array.toList_inj.1; simp
          rw [hw]
          refine hK _ _ _ (s4 w.heap.size _ (.inr (hst.hs.none_new (Nat.le_refl _)))) _ _ _ _ (n1.sub ?_) n2 trivial
          intro q r hq
          refine ⟨r, ?_, .inl rfl⟩
          simp only [Heap.upd] at hq ⊢
          split at hq
          · rename_i hq1; rw [if_pos hq1]; exact hq
          · rename_i hq1
            rw [if_neg hq1]
            split at hq
            · cases hq
            · exact hq
  · exact hs.elim

end
end Sm
