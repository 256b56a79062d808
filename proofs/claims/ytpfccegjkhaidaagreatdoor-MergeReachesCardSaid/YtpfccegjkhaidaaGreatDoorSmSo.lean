/-
  A layer of one's own: texts So.
-/
import Derived.Test.YtpfccegjkhaidaaGreatDoorSmLH
import Derived.Test.YtpfccegjkhaidaaGreatDoorSmLI
import Derived.Shelf.SlSortCmp.NoneTotal
set_option linter.unusedVariables false
set_option linter.unusedSimpArgs false
namespace Sm
open Go Go.Proofs Go.Sort
/-- The library's slices.SortFunc stands at a function: elements of k cells. -/
structure SortAt (P : Program) (n k : Nat) : Prop where
  non : ∀ (p : Option Addr) (cap : Nat) (fv : Value) (w : World), Calls P n #[.slice p 0 cap, fv] w fun e w' => e = .returned (.tuple #[]) ∧ w' = w
  srt : ∀ {α : Type} [Inhabited α] (enc : α → List Value) (_ : ∀ x, (enc x).length = k) (_ : ∀ x, ∀ v ∈ enc x, v.oneCell' = true) (cf : α → α → Int) (_ : SWO (ltOf cf)) (g : Nat) (cb : Array Value) (blk off cap : Nat) (d : Array α) (w : World)
    (_ : ∀ args w, (callFunc g args).run P w = .ok (.enter g args) w) (_ : CmpLays P g cb enc k cf blk off d.size w) (_ : HoldsK enc k w blk off d) (_ : blk < w.heap.size) (_ : d.size < 4611686018427387904),
    Calls P n #[.slice (some ⟨blk, off, none⟩) d.size cap, .func (.func g) #[] cb] w fun e w' =>
      e = .returned (.tuple #[]) ∧ ∃ d' n os, PermIn 0 d.size d d' ∧ SortedIn (ltOf cf) 0 d.size d' ∧ w' = sortWorldK enc k w blk off n d' os
theorem flatMap_get {α β : Type} {k : Nat} (f : α → List β) : ∀ (l : List α), (∀ x ∈ l, (f x).length = k) → ∀ (i r : Nat), r < k → (l.flatMap f)[i * k + r]? = (l[i]?).bind fun x => (f x)[r]?
  | [], _, i, r, _ => by simp
  | x :: l, h, 0, r, hr => by
    rw [List.flatMap_cons, List.getElem?_append_left (by rw [h x (by simp)]; omega)]
    simp
  | x :: l, h, i + 1, r, hr => by
    have hx := h x (by simp)
    rw [List.flatMap_cons, List.getElem?_append_right (by rw [hx, Nat.succ_mul]; omega), hx]
    rw [show (i + 1) * k + r - k = i * k + r by rw [Nat.succ_mul]; omega]
    rw [flatMap_get f l (fun y hy => h y (by simp [hy])) i r hr]
    simp
theorem flatK_list {α : Type} [Inhabited α] (enc : α → List Value) (k : Nat) (hk : ∀ x, (enc x).length = k) (d : Array α) : (flatK enc k d).toList = d.toList.flatMap enc := by
  apply List.ext_getElem?
  intro t
  by_cases ht : t < d.size * k
  · have hk0 : 0 < k := by
      rcases Nat.eq_zero_or_pos k with h | h
      · subst h; simp at ht
      · exact h
    have hdm : t = t / k * k + t % k := by rw [Nat.mul_comm]; exact (Nat.div_add_mod t k).symm
    have hq : t / k < d.size := by
      rcases Nat.lt_or_ge (t / k) d.size with h | h
      · exact h
      · have := Nat.mul_le_mul_right k h; omega
    have hr : t % k < k := Nat.mod_lt _ hk0
    have h1 : (flatK enc k d).toList[t]? = some ((enc d[t / k]!)[t % k]!) := by
      rw [Array.getElem?_toList, Array.getElem?_eq_getElem (by simpa using ht)]
      congr 1
      have := get_flatK enc k d t ht
      rw [getElem!_pos _ t (by simpa using ht)] at this
      exact this
    have hd : d[t / k]! = d[t / k] := getElem!_pos d (t / k) hq
    have hlt : t % k < (enc d[t / k]).length := by rw [hk]; exact hr
    rw [h1, hd, getElem!_pos (enc d[t / k]) (t % k) hlt]
    conv => rhs; rw [hdm]
    rw [flatMap_get enc d.toList (fun x _ => hk x) _ _ hr, Array.getElem?_toList, Array.getElem?_eq_getElem hq]
    simp only [Option.bind_some]
    rw [List.getElem?_eq_getElem hlt]
  · have hlen : (d.toList.flatMap enc).length = d.size * k := by
      have : ∀ l : List α, (l.flatMap enc).length = l.length * k := by
        intro l
        induction l with
        | nil => simp
        | cons a l ih => rw [List.flatMap_cons, List.length_append, ih, hk, List.length_cons, Nat.succ_mul]; omega
      rw [this]; simp
    rw [List.getElem?_eq_none (by simpa using ht), List.getElem?_eq_none (by omega)]
/-- What grew by draws and blocks alone. -/
theorem grown_by {W w' : World} {K K' : Nat → Nat} {H' : Heap} (h : Ext W K (fun _ => none) w' K' H') : ∃ q os', w' = Sort.grow (W.drewN q) os' := by
  refine ⟨w'.drawn - W.drawn, w'.heap.extract W.heap.size w'.heap.size, ?_⟩
  have h1 := h.os
  have h2 := h.tape
  have h3 := h.output
  have h4 := h.drawn
  have h5 := h.size
  have h6 : w'.heap = W.heap ++ w'.heap.extract W.heap.size w'.heap.size := by
    apply Array.ext_getElem?
    intro i
    by_cases hi : i < W.heap.size
    · rw [(h.same i hi rfl).1, Array.getElem?_append_left hi]
    · rw [Array.getElem?_append_right (by omega), Array.getElem?_extract]
      by_cases hi2 : i < w'.heap.size
      · rw [if_pos (by omega)]; congr 1; omega
      · rw [if_neg (by omega), Array.getElem?_eq_none (by omega)]
  cases w'
  cases W
  simp only [Sort.grow, World.drewN] at *
  subst h1 h2 h3
  rw [← h6]
  congr 1
  omega
theorem repL_rows {ν : Nat → Option Nat} {K : Nat → Nat} {w : World} {β : Type} (row : β → List HV) (ok : β → Prop) : ∀ {l : List β} {A : List Value}, (∀ x ∈ l, ok x) → repL ν K w (l.flatMap row) A → ∃ ds : List {p : β × List Value // ok p.1 ∧ repL ν K w (row p.1) p.2}, ds.map (·.1.1) = l ∧ ds.flatMap (·.1.2) = A
  | [], A, _, h => ⟨[], rfl, by simp [repL] at h; simp [h]⟩
  | x :: l, A, ho, h => by
    rw [List.flatMap_cons] at h
    have h1 := repL_take (row x).length h
    have h2 := repL_drop (row x).length h
    rw [List.take_left] at h1
    rw [List.drop_left] at h2
    obtain ⟨ds, g1, g2⟩ := repL_rows row ok (fun y hy => ho y (by simp [hy])) h2
    exact ⟨⟨(x, A.take (row x).length), ho x (by simp), h1⟩ :: ds, by simp [g1], by rw [List.flatMap_cons, g2, List.take_append_drop]⟩
theorem repL_of_rows {ν : Nat → Option Nat} {K : Nat → Nat} {w : World} {β : Type} {row : β → List HV} {ok : β → Prop} : ∀ (ds : List {p : β × List Value // ok p.1 ∧ repL ν K w (row p.1) p.2}), repL ν K w ((ds.map (·.1.1)).flatMap row) (ds.flatMap (·.1.2))
  | [] => by simp [repL]
  | d :: ds => by
    rw [List.map_cons, List.flatMap_cons, List.flatMap_cons]
    exact repL_append d.2.2 (repL_of_rows ds)
/-- The block of a row that the sort turned. -/
theorem sw_block {α : Type} [Inhabited α] {enc : α → List Value} {k : Nat} {w : World} {b m : Nat} {d : Array α} {os : Array Obj} {us : Array Value} {T : TypeId} {fr : Nat × Nat} (hb : w.heap[b]? = some (.cells us T fr)) :
    (sortWorldK enc k w b 0 m d os).heap[b]? = some (.cells (putCells id 0 (flatK enc k d) us) T fr) := by
  have hlt : b < w.heap.size := lt_of_heap hb
  rw [sortWorldK, heap_grow_old _ _ (by simpa [putRowK] using hlt)]
  show ((Sort.ahead w m).heap.modify b _)[b]? = _
  rw [Array.getElem?_modify]
  simp only [if_true]
  show (w.heap[b]?).map _ = _
  rw [hb]; rfl
theorem sw_other {α : Type} [Inhabited α] {enc : α → List Value} {k : Nat} {w : World} {b c m : Nat} {d : Array α} {os : Array Obj} (hc : c < w.heap.size) (h : c ≠ b) : (sortWorldK enc k w b 0 m d os).heap[c]? = w.heap[c]? := by
  rw [sortWorldK, heap_grow_old _ _ (by simpa [putRowK] using hc)]
  show ((Sort.ahead w m).heap.modify b _)[c]? = _
  rw [Array.getElem?_modify, if_neg (fun e => h e.symm)]; rfl
theorem put_list (F us : Array Value) (h : F.size ≤ us.size) : (putCells id 0 F us).toList = F.toList ++ us.toList.drop F.size := by
  apply List.ext_getElem?
  intro i
  simp only [putCells, Array.getElem?_toList, Array.getElem?_mapIdx, Nat.zero_le, true_and, Nat.zero_add, Nat.sub_zero, id]
  by_cases hi : i < F.size
  · rw [List.getElem?_append_left (by simpa using hi), Array.getElem?_toList, Array.getElem?_eq_getElem (by omega : i < us.size), Array.getElem?_eq_getElem hi]
    simp [hi]
  · rw [List.getElem?_append_right (by simpa using hi), List.getElem?_drop, Array.getElem?_toList]
    rw [show F.size + (i - F.toList.length) = i by simp; omega]
    cases us[i]? <;> simp [hi]
/-- slices.SortFunc on an object of rows, and how two rows compare. -/
theorem sort_spec {code : Nat → SF} (L : Linked code) {gs gc k : Nat} {β : Type} (row : β → List HV) (ok : β → Prop) (hr1 : ∀ x, (row x).all HV.one = true) (hrk : ∀ x, (row x).length = k) (hk0 : 0 < k) (hs : ∀ n, L.ν n = some gs → SortAt L.P n k)
    (lt : β → β → Bool) (h1 : ∀ x, ok x → lt x x = false) (h2 : ∀ x y z, ok x → ok y → ok z → lt x y = true → lt y z = true → lt x z = true) (h3 : ∀ x y z, ok x → ok y → ok z → lt x y = false → lt y z = false → lt x z = false)
    (cf : β → β → Int) (hcf : ∀ x y, decide (cf x y < 0) = lt x y)
    (hcmp : ∀ x y, ok x → ok y → Spec L.P L.ν gc [.ag (row x), .ag (row y)] noR fun r _ => r = I (cf x y))
    (l : List β) (hok : ∀ x ∈ l, ok x) (b n c : Nat) (zs : List HV) (H : Heap) (hb : H b = some (.obj (l.flatMap row ++ zs))) (hn : l.length = n) (hn2 : n < 4611686018427387904) (K : HV → Heap → Prop)
    (hk : ∀ (l' : List β) X, l'.Perm l → l'.Pairwise (fun x y => lt y x = false) → X b = some (.obj (l'.flatMap row ++ zs)) → Fr [b] H X → K (.tu []) X) :
    Spec L.P L.ν gs [.v (.slice (some ⟨b, 0, none⟩) n c), .fn gc []] H K := by
  intro nn hnn w Kk us hst hr
  obtain ⟨u1, us1, rfl, r1, hr⟩ := hr
  obtain ⟨u2, us2, rfl, r2, hr⟩ := hr
  simp only [repL] at hr
  subst hr
  simp only [rep] at r1 r2
  subst r1
  obtain ⟨mm, cs0, g1, rfl, g3⟩ := r2
  simp only [repL] at g3
  subst g3
  have hS := hs nn hnn
  obtain ⟨vs, T, v1, v2, v3, v4⟩ := hst.res b _ hb
  have hlt := hst.lt hb
  have hA := repL_take (l.flatMap row).length v3
  have hZ := repL_drop (l.flatMap row).length v3
  rw [List.take_left] at hA
  rw [List.drop_left] at hZ
  cases l with
  | nil =>
    simp only [List.length_nil] at hn
    subst hn
    refine (hS.non _ _ _ w).mono fun e w' ⟨e1, e2⟩ => ?_
    subst e2
    exact ⟨.tuple #[], .tu [], H, Kk, e1, by simp [rep, repL], hst, Ext.refl _ _ _, hk [] H (List.Perm.refl _) List.Pairwise.nil hb (Fr.refl _ _)⟩
  | cons x0 l0 =>
    generalize hle : x0 :: l0 = l at *
    obtain ⟨ds, d1, d2⟩ := repL_rows row ok hok hA
    have hds : ds ≠ [] := by
      rintro rfl
      rw [← hle] at d1; simp at d1
    obtain ⟨dd0, hdd⟩ : ∃ x, x ∈ ds := by
      cases ds with
      | nil => exact absurd rfl hds
      | cons a _ => exact ⟨a, by simp⟩
    letI : Inhabited {p : β × List Value // ok p.1 ∧ repL L.ν Kk w (row p.1) p.2} := ⟨dd0⟩
    let enc : {p : β × List Value // ok p.1 ∧ repL L.ν Kk w (row p.1) p.2} → List Value := fun p => p.1.2
    have henc : ∀ x, (enc x).length = k := fun x => (repL_length x.2.2).trans (hrk _)
    have hlen : ds.toArray.size = n := by
      have := congrArg List.length d1
      simp only [List.length_map] at this
      simp [this, hn]
    have hF : ∀ d : Array {p : β × List Value // ok p.1 ∧ repL L.ν Kk w (row p.1) p.2}, (flatK enc k d).toList = d.toList.flatMap enc := fun d => flatK_list enc k henc d
    have hrl : (l.flatMap row).length = n * k := by
      have : ∀ l : List β, (l.flatMap row).length = l.length * k := by
        intro l
        induction l with
        | nil => simp
        | cons a l ih => rw [List.flatMap_cons, List.length_append, ih, hrk, List.length_cons, Nat.succ_mul]; omega
      rw [this, hn]
    have hvl : vs.toList.length = (l.flatMap row ++ zs).length := repL_length v3
    have hvs : n * k ≤ vs.size := by
      rw [List.length_append, hrl] at hvl
      simp at hvl; omega
    have hH : HoldsK enc k w b 0 ds.toArray := by
      intro j hj
      rw [size_flatK, hlen] at hj
      rw [Nat.zero_add]
      constructor
      · simp only [World.cell?, v1, Option.isSome_none, Bool.false_eq_true, if_false]
        have e1 : (flatK enc k ds.toArray).toList = vs.toList.take (n * k) := by rw [hF, ← hrl]; exact d2
        have e2 : (flatK enc k ds.toArray)[j]? = vs[j]? := by
          rw [← Array.getElem?_toList, e1, List.getElem?_take, if_pos hj, Array.getElem?_toList]
        have hj2 : j < (flatK enc k ds.toArray).size := by rw [size_flatK, hlen]; exact hj
        rw [← e2, Array.getElem?_eq_getElem hj2, getElem!_pos _ j hj2]; rfl
      · rw [World.frozen?, v1]; simp
    have hmm := L.bodies mm gc g1
    have eg : ∀ args w, (callFunc mm args).run L.P w = .ok (.enter mm args) w := by
      intro args w
      obtain ⟨f, hf, hbd, hnm⟩ := hmm
      simp only [callFunc, Sem.run_bind, run_program, Result.andThen_ok, hf, hnm, hbd, Bool.false_eq_true, if_false, Sem.run_pure]
    have hgW : ∀ m (dk : Array {p : β × List Value // ok p.1 ∧ repL L.ν Kk w (row p.1) p.2}) os, Grow w Kk (sortWorldK enc k w b 0 m dk os) Kk := fun m dk os => ⟨fun _ => Nat.le_refl _, fun c j hj => by
      have hcb : c ≠ b := by rintro rfl; omega
      have hcl : c < w.heap.size := by
        rcases Nat.lt_or_ge c w.heap.size with h | h
        · exact h
        · rw [hst.fresh c h] at hj; omega
      simp only [World.cell?, sw_other hcl hcb]⟩
    have hsz : ∀ m (dk : Array {p : β × List Value // ok p.1 ∧ repL L.ν Kk w (row p.1) p.2}) (os : Array Obj), w.heap.size ≤ (sortWorldK enc k w b 0 m dk os).heap.size := fun m dk os => by
      simp [sortWorldK, putRowK, Sort.ahead]
    have hcl : CmpLays L.P mm #[] enc k (fun x y => cf x.1.1 y.1.1) b 0 ds.toArray.size w := by
      intro m os dk _ x y
      have hg := hgW m dk os
      have h0 : hsat L.ν (sortWorldK enc k w b 0 m dk os) Kk noR := ⟨fun b r h => (by cases h), fun c hc => hst.fresh c (Nat.le_trans (hsz m dk os) hc)⟩
      refine (hcmp x.1.1 y.1.1 x.2.1 y.2.1 mm g1 (sortWorldK enc k w b 0 m dk os) Kk [.agg (enc x).toArray, .agg (enc y).toArray] h0 ?_).mono ?_
      · refine ⟨_, _, rfl, ?_, _, _, rfl, ?_, rfl⟩
        · simp only [rep]; exact ⟨enc x, rfl, hr1 _, x.2.2.grow hg⟩
        · simp only [rep]; exact ⟨enc y, rfl, hr1 _, y.2.2.grow hg⟩
      · rintro e w' ⟨u, h, H', K', q1, q2, q3, q4, q5⟩
        subst q5
        simp only [rep] at q2
        subst q2
        exact ⟨q1, grown_by q4⟩
    have hO : SWO (ltOf fun (x y : {p : β × List Value // ok p.1 ∧ repL L.ν Kk w (row p.1) p.2}) => cf x.1.1 y.1.1) := by
      have e : ∀ x y : {p : β × List Value // ok p.1 ∧ repL L.ν Kk w (row p.1) p.2}, ltOf (fun (x y : {p : β × List Value // ok p.1 ∧ repL L.ν Kk w (row p.1) p.2}) => cf x.1.1 y.1.1) x y = lt x.1.1 y.1.1 := fun x y => hcf _ _
      exact ⟨fun x => by rw [e]; exact h1 _ x.2.1, fun x y z => by rw [e, e, e]; exact h2 _ _ _ x.2.1 y.2.1 z.2.1, fun x y z => by rw [e, e, e]; exact h3 _ _ _ x.2.1 y.2.1 z.2.1⟩
    have hrun := hS.srt enc henc (fun x v hv => repL_one x.2.2 (hr1 _) v hv) (fun x y => cf x.1.1 y.1.1) hO mm #[] b 0 c ds.toArray w eg hcl hH hlt (by rw [hlen]; exact hn2)
    rw [hlen] at hrun
    refine hrun.mono ?_
    rintro e w' ⟨e1, d', m, os, p1, p2, rfl⟩
    have hd's : d'.size = n := p1.1.trans hlen
    have hb' := sw_block (enc := enc) (k := k) (m := m) (d := d') (os := os) v1
    have hFs : (flatK enc k d').size = n * k := by rw [size_flatK, hd's]
    have hg := hgW m d' os
    have hnew : repL L.ν Kk (sortWorldK enc k w b 0 m d' os) ((d'.toList.map (·.1.1)).flatMap row ++ zs) (putCells id 0 (flatK enc k d') vs).toList := by
      rw [put_list _ _ (by rw [hFs]; exact hvs), hF, hFs]
      refine repL_append ?_ ?_
      · exact (repL_of_rows d'.toList).grow hg
      · rw [hrl] at hZ; exact hZ.grow hg
    have hone : ((d'.toList.map (·.1.1)).flatMap row ++ zs).all HV.one = true := by
      rw [List.all_append, Bool.and_eq_true]
      constructor
      · rw [List.all_eq_true]
        intro x hx
        obtain ⟨y, _, hy⟩ := List.mem_flatMap.mp hx
        exact List.all_eq_true.mp (hr1 y) x hy
      · rw [List.all_append, Bool.and_eq_true] at v4; exact v4.2
    refine ⟨.tuple #[], .tu [], H.upd b (some (.obj ((d'.toList.map (·.1.1)).flatMap row ++ zs))), Kk, e1, by simp [rep, repL], ⟨fun a r ha => ?_, fun a ha => hst.fresh a (Nat.le_trans (hsz m d' os) ha)⟩, ⟨rfl, rfl, rfl, hsz m d' os, ?_, hg, fun a ha hH' => ?_⟩, hk (d'.toList.map (·.1.1)) _ ?_ ?_ (Heap.upd_same _ _ _) (Fr.set (by simp))⟩
    · by_cases hab : a = b
      · subst hab
        rw [Heap.upd_same] at ha
        cases ha
        exact ⟨_, T, hb', v2, hnew, hone⟩
      · rw [Heap.upd_ne _ _ hab] at ha
        exact (hst.res a r ha).move hg (sw_other (hst.lt ha) hab) rfl
    · simp only [sortWorldK, putRowK, Sort.grow, putRow, mapBlock, Sort.ahead]; omega
    · have hab : a ≠ b := by rintro rfl; rw [hH'] at hb; cases hb
      exact ⟨sw_other ha hab, rfl, by rw [Heap.upd_ne _ _ hab]; exact hH'⟩
    · have hp := p1.2.2
      rw [← hlen] at hp
      have e2 : d'.extract 0 ds.toArray.size = d' := by rw [hlen, ← hd's]; simp
      have e3 : ds.toArray.extract 0 ds.toArray.size = ds.toArray := by simp
      rw [e2, e3] at hp
      have := hp.map (·.1.1)
      rwa [d1] at this
    · rw [List.pairwise_map, List.pairwise_iff_getElem]
      intro i j hi hj hij
      have hj' : j < d'.size := by simpa using hj
      have := p2 i j (Nat.zero_le _) hij (by omega)
      rw [getElem!_pos d' i (by omega), getElem!_pos d' j hj'] at this
      have e : ∀ x y : {p : β × List Value // ok p.1 ∧ repL L.ν Kk w (row p.1) p.2}, ltOf (fun (x y : {p : β × List Value // ok p.1 ∧ repL L.ν Kk w (row p.1) p.2}) => cf x.1.1 y.1.1) x y = lt x.1.1 y.1.1 := fun x y => hcf _ _
      rw [e] at this
      simpa using this
/-- .. and on no slice at all. -/
theorem sortN_spec {code : Nat → SF} (L : Linked code) {gs gc k : Nat} (hs : ∀ n, L.ν n = some gs → SortAt L.P n k) (H : Heap) (K : HV → Heap → Prop) (hk : K (.tu []) H) : Spec L.P L.ν gs [.v (.slice none 0 0), .fn gc []] H K := by
  intro nn hnn w Kk us hst hr
  obtain ⟨u1, us1, rfl, r1, hr⟩ := hr
  obtain ⟨u2, us2, rfl, r2, hr⟩ := hr
  simp only [repL] at hr
  subst hr
  simp only [rep] at r1
  subst r1
  refine ((hs nn hnn).non _ _ _ w).mono fun e w' ⟨e1, e2⟩ => ?_
  subst e2
  exact ⟨.tuple #[], .tu [], H, Kk, e1, by simp [rep, repL], hst, Ext.refl _ _ _, hk⟩
end Sm
