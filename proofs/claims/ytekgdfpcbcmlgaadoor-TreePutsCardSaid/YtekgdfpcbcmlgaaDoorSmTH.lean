/-
  A layer of one's own: texts T34,T35.
-/
import Derived.Test.YtekgdfpcbcmlgaaDoorSmTG
set_option linter.unusedVariables false
set_option linter.unusedSimpArgs false
set_option maxRecDepth 10000
set_option maxHeartbeats 1000000
namespace Sm
open Go
-- BASE entU
theorem OO.fr {bs : List Nat} {H H' : Heap} {b n c : Nat} {l : List Eo} (h : OO H b n c l) (hf : Fr bs H H') (hb : b ∉ bs) : OO H' b n c l := by
  obtain ⟨⟨zs, h1, h2⟩, h3, h4, h5⟩ := h
  exact ⟨⟨zs, hf.get hb h1, h2⟩, h3, h4, h5⟩
theorem flatO {l : List Eo} : (l.map fun d => HV.ag (cO d)).flatMap HV.cells = cellsO l := by
  simp only [cellsO, List.flatMap_map]; rfl
/-- As what stands still it is these entries. -/
theorem OO.view {G H : Heap} {b n c : Nat} {ds : List Eo} (h : OO H b n c ds) (hd : ∀ d ∈ ds, DW G H b d.v d.e.data) : VW H (.v (.slice (some ⟨b, 0, none⟩) n c)) (.sl .no 3 ((ds.map (·.e)).map encE)) := by
  obtain ⟨⟨zs, h1, h2, h3⟩, h4, h5, h6⟩ := h
  have hcl := cellsO_len ds
  have hone : ∀ d ∈ ds, (cO d).all HV.one = true := fun d hd' => cO_one (hd d hd').one
  refine VW.trans (y := .sl .no 3 (ds.map fun d => .ag (cO d))) (VW.fw h1 (FW.slice ?_ ?_ (by simpa using h4) h5 h6 ?_ ?_)) ?_
  · rw [flatO, List.take_left' (by rw [hcl, h4])]
  · rw [List.length_append, hcl, h4]; omega
  · rw [List.all_eq_true]; intro x hx; obtain ⟨d, hd', rfl⟩ := List.mem_map.mp hx; exact hone d hd'
  · intro x hx; obtain ⟨d, hd', rfl⟩ := List.mem_map.mp hx; rfl
  · rw [List.map_map]
    refine VW.sl (VWL.map fun d hd' => ?_) ?_ ?_
    · exact VW.ag ⟨VW.refl _ _, VW.refl _ _, (hd d hd').view, trivial⟩ rfl
    · rw [List.all_eq_true]; intro x hx; obtain ⟨d, hd', rfl⟩ := List.mem_map.mp hx; rfl
    · intro x hx; obtain ⟨d, hd', rfl⟩ := List.mem_map.mp hx; rfl
/-- A function that answers plainly, asked of what is one's own. -/
theorem PureF.lent {L : Linked code} {g : Nat} {args args' : List HV} {x : Value} (h : PureF L g args' (.v x)) {H : Heap} {K : HV → Heap → Prop} (hv : VWL H args args') (hk : K (.v x) H) : Spec L.P L.ν g args H K :=
  Spec.borrow hv (h _ _ fun _ _ => rfl) hk
theorem OO.insD {G H X : Heap} {b b' : Nat} {ds : List Eo} {x : Eo} {k : Nat} (hd : ∀ d ∈ ds, DW G H b d.v d.e.data) (hx : DW G H b x.v x.e.data) (hf : Fr [b] H X) (hb : b' = b ∨ H b' = none) : ∀ d ∈ ds.take k ++ x :: ds.drop k, DW G X b' d.v d.e.data := by
  intro d hd'
  have : DW G H b d.v d.e.data := by
    rcases List.mem_append.mp hd' with h | h
    · exact hd d (List.mem_of_mem_take h)
    · rcases List.mem_cons.mp h with rfl | h
      · exact hx
      · exact hd d (List.mem_of_mem_drop h)
  have h2 := this.to hb
  rcases this with h | h | ⟨c, cc, zs, h1, h2, h3, h4⟩
  · exact .inl h
  · exact .inr (.inl h)
  · refine .inr (.inr ⟨c, cc, zs, h1, ?_, hf.get (by simpa using h2) h3, h4⟩)
    rcases hb with rfl | hb
    · exact h2
    · rintro rfl; rw [h3] at hb; cases hb
attribute [local irreducible] csem rsem dsem seqK blockK normK finK DK RK JK BR G3 resK Spec Tok Fr

theorem insertEO_spec (L : Linked code) (tk : Tk) (x : Eo) (H : Heap) (K)
    (hk : ∀ b' c' X, OO X b' 1 c' [x] → Fr [] H X → H b' = none → K (.v (.slice (some ⟨b', 0, none⟩) 1 c')) X) :
    Spec L.P L.ν 174 [.sl .full 3 [], I 0, .sl tk 3 [.ag (cO x)]] H K := by
  refine go_spec L code174 rfl ?_
  repeat (refine gk entU ?_)
  apply r_appE; (focus rfl); (focus rfl); (focus exact rdm_oneO _ _ _); (focus decide); (focus decide); (focus skip)
  intro b' c' zs X hb h1 h2 h3 h4 hX hf
  repeat (refine gk entU ?_)
  refine resK_some (hk b' c' X ⟨⟨zs, ?_, h3, h4⟩, rfl, h1, h2⟩ hf hb)
  rw [hX]; simp [cellsO]
theorem putO_spec (L : Linked code) (tk : Tk) (l : List Ent) (x : Ent) (hl : l.length ≤ 65536) (ho : ∀ e ∈ l, okE e) (hx : okE x) (H : Heap) (K)
    (hk0 : (putR l x).2 ≠ 0 → ∀ H', Fr [] H H' → K (.tu [.sl .no 3 [], I (putR l x).2]) H')
    (hk1 : (putR l x).2 = 0 → ∀ b c ds H', OO H' b (putR l x).1.length c ds → ds.map (·.e) = (putR l x).1 → (∀ d ∈ ds, DW H H' b d.v d.e.data) → Fr [] H H' → H b = none → K (.tu [.v (.slice (some ⟨b, 0, none⟩) (putR l x).1.length c), I (putR l x).2]) H') :
    Spec L.P L.ν 156 [.sl tk 3 (l.map encE), encE x] H K := by
  refine go_spec L code156 rfl ?_
  repeat (refine gk entU ?_)
  refine bxk entU ?_
  intro c X hc x1 x2 x3
  have x1' : X c = some (.obj (cE x)) := x1
  repeat (refine gk entU ?_)
  (apply r_call; (focus rfl))
  refine check_spec L tk l (by omega) ho X _ fun H1 f1 => ?_
  repeat (refine gk entU ?_)
  cases c1 : (chkT l != 0)
  case true =>
    have c1' : chkT l ≠ 0 := by simpa [bne] using c1
    have e1 : putR l x = ([], chkT l) := by rw [putR, if_pos c1']
    rw [e1] at hk0
    repeat (refine gk entU ?_)
    exact resK_weak (Weak.tu (bs := [.sl .no 3 [], I (chkT l)]) ⟨Weak.nil' 3, Weak.refl _, trivial⟩) (hk0 c1' H1 (x2.trans f1))
  rw [putR, if_neg (by simpa [bne] using c1)] at hk0 hk1
  have fin : ∀ (n : Nat), n = (putL l x).length → ∀ (H3 : Heap) (b' c' : Nat) (ds : List Eo), OO H3 b' n c' ds → ds.map (·.e) = putL l x → (∀ d ∈ ds, DW H H3 b' d.v d.e.data) → Fr [] H H3 → H b' = none → ∀ K', K' (I (chkT (putL l x))) H3 → Spec L.P L.ν 161 [.v (.slice (some ⟨b', 0, none⟩) n c')] H3 K' := by
    intro n hn H3 b' c' ds h1 h2 h3 h4 h5 K' hK
    have hv := h1.view h3
    rw [h2] at hv
    exact PureF.lent (check_spec L .no (putL l x) (by have := putL_len l x; omega) (fun e he => (putL_mem he).elim (ho e) (fun h => h ▸ hx))) (args' := [_]) ⟨hv, trivial⟩ hK
  repeat (refine gk entU ?_)
  (apply r_call; (focus rfl))
  refine copyO_spec L tk l (by omega) ho H1 _ (fun hz => ?_) fun hne b cc ds Y hb hY g1 g2 fY => ?_
  · repeat (refine gj entU ?_)
    refine c_join (Spec_SMono L) (ι := Nat × Nat) (fun j => [(7, .h (.v (.slice (some ⟨j.1, 0, none⟩) (putL l x).length j.2)))]) (fun _ => [])
      (fun j H' => (∃ ds, OO H' j.1 (putL l x).length j.2 ds ∧ ds.map (·.e) = putL l x ∧ (∀ d ∈ ds, DW H H' j.1 d.v d.e.data)) ∧ Fr [] H H' ∧ H j.1 = none ∧ (l.find? (fun e => e.path == x.path)).any (fun e => e.dir != x.dir) = false) ?_ ?_
    · have x4 := f1.get (by simp) x1
      repeat (refine gk entU ?_)
      (apply r_call; (focus rfl))
      refine find_spec L tk l x.path (by omega) _ _ fun H2 f2 => ?_
      have x5 := f2.get (by simp) x4
      rw [show firstIdx (fun e : Ent => e.path == x.path) l = -1 from by rw [hz]; rfl]
      repeat (refine gk entU ?_)
      (apply r_call; (focus rfl))
      refine where_spec L 172 [ptr c] (fun y => lessP x.path y.path) tk l (by omega) _ (fun y hy H' K hf hk => put1_spec L x y c H' hx.1 (ho y hy).1 (hf.get (by simp) x5) K hk) _ fun H3 f3 => ?_
      have x6 := f3.get (by simp) x5
      rw [show firstIdx (fun y : Ent => lessP x.path y.path) l = -1 from by rw [hz]; rfl]
      repeat (refine gk entU ?_)
      (apply r_call; (focus rfl))
      refine ownO_spec L x (Nat.le_trans hx.2 (by decide)) _ c _ x6 _ fun v H4 hv f4 => ?_
      have hv1 : v.el = true ∧ v.ncells = 1 ∧ v.cells = [v] ∧ v.one = true := one_facts hv.one
      repeat (refine gk (And.intro entU (And.intro hv1 cO_mk)) ?_)
      (apply r_call; (focus rfl))
      have e0 : putL l x = [x] := by rw [hz]; rfl
      rw [show I (l.length : Int) = I 0 by rw [hz]; rfl]
      refine insertEO_spec L .full ⟨x, v⟩ H4 _ fun b' c' Z hol f5 hb' => ?_
      have fQ := ((x2.trans f1).trans f2).trans f3
      have fT := fQ.trans f4
      repeat (refine gk entU ?_)
      refine j_n (b', c') ⟨⟨[⟨x, v⟩], by rw [e0]; exact hol, by rw [e0]; rfl, fun d hd => ?_⟩, fT.trans f5, fT.none hb', by rw [hz]; rfl⟩ ?_
      · obtain rfl := List.mem_singleton.mp hd
        exact ((hv.base fQ).to (o' := b') (.inr hb')).fr f5 (by simp)
      (refine leM ?_ ?_ ?_ <;> (repeat refine leS (And.intro entU e0) ?_) <;> exact leE)
    · rintro ⟨b', c'⟩ H3 ⟨⟨ds, q1, q2, q3⟩, f3, q7, q8⟩
      rw [if_neg (by rw [q8]; decide)] at hk0 hk1
      repeat (refine gk entU ?_)
      (apply r_call; (focus rfl))
      refine fin _ rfl H3 b' c' ds q1 q2 q3 f3 q7 _ ?_
      repeat (refine gk entU ?_)
      cases c2 : (chkT (putL l x) != 0)
      case true =>
        have c2' : chkT (putL l x) ≠ 0 := by simpa [bne] using c2
        rw [if_pos c2'] at hk0
        repeat (refine gk entU ?_)
        exact resK_weak (Weak.tu (bs := [.sl .no 3 [], I (chkT (putL l x))]) ⟨Weak.nil' 3, Weak.refl _, trivial⟩) (hk0 c2' H3 f3)
      rw [if_neg (by simpa [bne] using c2)] at hk1
      repeat (refine gk entU ?_)
      exact resK_some (hk1 rfl b' c' ds H3 q1 q2 q3 f3 q7)
  · repeat (refine gj entU ?_)
    refine c_join (Spec_SMono L) (ι := Nat × Nat) (fun j => [(7, .h (.v (.slice (some ⟨j.1, 0, none⟩) (putL l x).length j.2)))]) (fun _ => [])
      (fun j H' => (∃ ds, OO H' j.1 (putL l x).length j.2 ds ∧ ds.map (·.e) = putL l x ∧ (∀ d ∈ ds, DW H H' j.1 d.v d.e.data)) ∧ Fr [] H H' ∧ H j.1 = none ∧ (l.find? (fun e => e.path == x.path)).any (fun e => e.dir != x.dir) = false) ?_ ?_
    · have x4 := fY.get (by simp) (f1.get (by simp) x1)
      have hb0 : H b = none := (x2.trans f1).none hb
      repeat (refine gk entU ?_)
      (apply r_call; (focus rfl))
      refine find_spec L tk l x.path (by omega) _ _ fun H2 f2 => ?_
      have x5 := f2.get (by simp) x4
      have y5 := hY.fr f2 (by simp)
      rcases firstIdx_cases (fun e : Ent => e.path == x.path) l with ⟨h1, h2⟩ | ⟨i, hi, h1, h2, _⟩
      · have e0 : putL l x = l.take (insAt l x) ++ x :: l.drop (insAt l x) := by rw [putL, h1]; rfl
        rw [h1]
        repeat (refine gk entU ?_)
        (apply r_call; (focus rfl))
        refine where_spec L 172 [ptr c] (fun y => lessP x.path y.path) tk l (by omega) _ (fun y hy H' K hf hk => put1_spec L x y c H' hx.1 (ho y hy).1 (hf.get (by simp) x5) K hk) _ fun H3 f3 => ?_
        have x6 := f3.get (by simp) x5
        have y6 := y5.fr f3 (by simp)
        have d6 : ∀ d ∈ ds, DW H H3 b d.v d.e.data := fun d hd => (((g2 d hd).base (x2.trans f1)).fr f2 (by simp)).fr f3 (by simp)
        obtain ⟨⟨zs, yb, _⟩, _⟩ := id y6
        rcases firstIdx_cases (fun y : Ent => lessP x.path y.path) l with ⟨k1, k2⟩ | ⟨k, hk', k1, k2, _⟩
        · have e1 : insAt l x = l.length := by rw [insAt, k1]; rfl
          rw [k1]
          repeat (refine gk entU ?_)
          (apply r_call; (focus rfl))
          refine ownO_spec L x (Nat.le_trans hx.2 (by decide)) _ b _ yb _ fun v H4 hv f4 => ?_
          have hv1 : v.el = true ∧ v.ncells = 1 ∧ v.cells = [v] ∧ v.one = true := one_facts hv.one
          have y7 := y6.fr f4 (by simp)
          repeat (refine gk (And.intro entU (And.intro hv1 cO_mk)) ?_)
          (apply r_call; (focus rfl))
          refine insertO_spec L .full b l.length cc l.length ds ⟨x, v⟩ H4 y7 (by omega) (Nat.le_refl _) _ fun b' c' Z hol f5 hb' => ?_
          have fQ := (((x2.trans f1).trans fY).trans f2).trans f3
          have fT := fQ.trans f4
          have e2 : (putL l x).length = l.length + 1 := by rw [e0, e1]; simp
          repeat (refine gk entU ?_)
          refine j_n (b', c') ⟨⟨_, by rw [e2]; exact hol, by rw [e0, e1, List.map_append, List.map_cons, List.map_take, List.map_drop, g1], OO.insD (fun d hd => (d6 d hd).fr f4 (by simp)) (hv.base fQ) f5 hb'⟩, fT.own hb0 f5, hb'.elim (fun h => h ▸ hb0) fT.none, by rw [h2]; rfl⟩ ?_
          (refine leM ?_ ?_ ?_ <;> (repeat refine leS (And.intro entU e2) ?_) <;> exact leE)
        · have e1 : insAt l x = k := by rw [insAt, k1, if_neg (by omega)]; rfl
          have e3 : decide ((k : Int) < 0) = false := by simp
          rw [k1]
          repeat (refine gk (And.intro entU e3) ?_)
          (apply r_call; (focus rfl))
          refine ownO_spec L x (Nat.le_trans hx.2 (by decide)) _ b _ yb _ fun v H4 hv f4 => ?_
          have hv1 : v.el = true ∧ v.ncells = 1 ∧ v.cells = [v] ∧ v.one = true := one_facts hv.one
          have y7 := y6.fr f4 (by simp)
          repeat (refine gk (And.intro entU (And.intro hv1 cO_mk)) ?_)
          (apply r_call; (focus rfl))
          refine insertO_spec L .full b l.length cc k ds ⟨x, v⟩ H4 y7 (by omega) (by omega) _ fun b' c' Z hol f5 hb' => ?_
          have fQ := (((x2.trans f1).trans fY).trans f2).trans f3
          have fT := fQ.trans f4
          have e2 : (putL l x).length = l.length + 1 := by rw [e0, e1]; simp; omega
          repeat (refine gk entU ?_)
          refine j_n (b', c') ⟨⟨_, by rw [e2]; exact hol, by rw [e0, e1, List.map_append, List.map_cons, List.map_take, List.map_drop, g1], OO.insD (fun d hd => (d6 d hd).fr f4 (by simp)) (hv.base fQ) f5 hb'⟩, fT.own hb0 f5, hb'.elim (fun h => h ▸ hb0) fT.none, by rw [h2]; rfl⟩ ?_
          (refine leM ?_ ?_ ?_ <;> (repeat refine leS (And.intro entU e2) ?_) <;> exact leE)
      · have e3 : decide ((i : Int) ≥ 0) = true := by simp
        have d5 : ∀ d ∈ ds, DW H H2 b d.v d.e.data := fun d hd => ((g2 d hd).base (x2.trans f1)).fr f2 (by simp)
        obtain ⟨⟨zs, yb, _⟩, _⟩ := id y5
        rw [h1]
        repeat (refine gk (And.intro entU e3) ?_)
        cases c3 : (l[i].dir == x.dir)
        case false =>
          have e9 : (l.find? (fun e => e.path == x.path)).any (fun e => e.dir != x.dir) = true := by rw [h2]; simpa [bne] using c3
          rw [if_pos e9] at hk0
          simp only [if_true, Bool.not_false]
          repeat (refine gk entU ?_)
          exact resK_weak (Weak.tu (bs := [.sl .no 3 [], I 9]) ⟨Weak.nil' 3, Weak.refl _, trivial⟩) (hk0 (by decide) H2 (((x2.trans f1).trans fY).trans f2))
        have e0 : putL l x = l.set i x := by rw [putL, h1, if_neg (by omega)]; rfl
        simp only [if_true, Bool.not_true]
        repeat (refine gk (And.intro entU e3) ?_)
        (apply r_call; (focus rfl))
        refine ownO_spec L x (Nat.le_trans hx.2 (by decide)) _ b _ yb _ fun v H4 hv f4 => ?_
        have hv1 : (HV.ag (cO ⟨x, v⟩)).el = true := cO_el hv.one
        obtain ⟨⟨zs', yb', z2, z3⟩, z4, z5, z6⟩ := y5.fr f4 (by simp)
        have hi2 : i < ds.length := by omega
        repeat (refine gk entU ?_)
        apply r_idxO; (focus rfl); (focus rfl); (focus omega)
        apply r_storeO; (focus rfl); (focus rfl); (focus (first | exact hv1 | rfl)); (focus (first | exact hv1 | rfl)); (focus exact yb'); (focus (rw [List.length_append, cellsO_len]; omega))
        intro Z hZ fZ
        have e1 : 0 + (i : Int).toNat * 3 = i * 3 := by omega
        have e4 : (HV.ag (cO ⟨x, v⟩)).cells = cO ⟨x, v⟩ := rfl
        rw [e1, e4, cellsO_set hi2] at hZ
        have fQ := ((x2.trans f1).trans fY).trans f2
        have fT := fQ.trans f4
        have e2 : (putL l x).length = l.length := by rw [e0]; simp
        repeat (refine gk entU ?_)
        refine j_n (b, cc) ⟨⟨ds.set i ⟨x, v⟩, ⟨⟨zs', hZ, by rw [e2]; exact z2, z3⟩, by rw [e2]; simpa using z4, by rw [e2]; exact z5, z6⟩, by rw [e0, List.map_set, g1], fun d hd => ?_⟩, fT.own hb0 fZ, hb0, by rw [h2]; simpa [bne] using c3⟩ ?_
        · rcases List.mem_or_eq_of_mem_set hd with h | rfl
          · exact ((d5 d h).fr f4 (by simp)).fr fZ (by simp)
          · exact (hv.base fQ).fr fZ (by simp)
        (refine leM ?_ ?_ ?_ <;> (repeat refine leS (And.intro entU e2) ?_) <;> exact leE)
    · rintro ⟨b', c'⟩ H3 ⟨⟨ds, q1, q2, q3⟩, f3, q7, q8⟩
      rw [if_neg (by rw [q8]; decide)] at hk0 hk1
      repeat (refine gk entU ?_)
      (apply r_call; (focus rfl))
      refine fin _ rfl H3 b' c' ds q1 q2 q3 f3 q7 _ ?_
      repeat (refine gk entU ?_)
      cases c2 : (chkT (putL l x) != 0)
      case true =>
        have c2' : chkT (putL l x) ≠ 0 := by simpa [bne] using c2
        rw [if_pos c2'] at hk0
        repeat (refine gk entU ?_)
        exact resK_weak (Weak.tu (bs := [.sl .no 3 [], I (chkT (putL l x))]) ⟨Weak.nil' 3, Weak.refl _, trivial⟩) (hk0 c2' H3 f3)
      rw [if_neg (by simpa [bne] using c2)] at hk1
      repeat (refine gk entU ?_)
      exact resK_some (hk1 rfl b' c' ds H3 q1 q2 q3 f3 q7)
end Sm

set_option linter.unusedVariables false
set_option linter.unusedSimpArgs false
set_option maxRecDepth 10000
set_option maxHeartbeats 1000000
namespace Sm
open Go
-- BASE entU
/-- So many bytes of one's own, whatever they are. -/
def DS (G H : Heap) (o : Nat) (v : HV) (m : Nat) : Prop :=
  (v = .v (.slice none 0 0) ∧ m = 0) ∨ (v = .sl .full 1 [] ∧ m = 0) ∨
  ∃ b c cs, v = .v (.slice (some ⟨b, 0, none⟩) m c) ∧ b ≠ o ∧ H b = some (.obj cs) ∧ (∀ k < m, ∃ y, cs[k]? = some (U y)) ∧ G b = none ∧ m ≤ 9223372036854775807
theorem DW.ds {G H o v d} (h : DW G H o v d) : DS G H o v d.length := by
  rcases h with ⟨h1, rfl⟩ | ⟨h1, rfl⟩ | ⟨b, c, zs, h1, h2, h3, h4, h5, h6⟩
  · exact .inl ⟨h1, rfl⟩
  · exact .inr (.inl ⟨h1, rfl⟩)
  · refine .inr (.inr ⟨b, c, _, h1, h2, h3, fun k hk => ⟨d[k], ?_⟩, h6, Nat.le_trans h4 (Nat.le_trans h5 (by decide))⟩)
    rw [List.getElem?_append_left (by simpa using hk)]; simp [hk]
theorem DS.fr {bs G H H' o v m} (h : DS G H o v m) (hf : Fr bs H H') (hb : bs ⊆ [o]) : DS G H' o v m := by
  rcases h with h | h | ⟨b, c, cs, h1, h2, h3, h4⟩
  · exact .inl h
  · exact .inr (.inl h)
  · exact .inr (.inr ⟨b, c, cs, h1, h2, hf.get (fun h => h2 (by simpa using hb h)) h3, h4⟩)
theorem DS.put {G H X o v m a k y} {cs : List HV} (h : DS G H o v m) (ha : H a = some (.obj cs)) (hX : X a = some (.obj (cs.set k (U y)))) (hf : Fr [a] H X) : DS G X o v m := by
  rcases h with h | h | ⟨b, c, ds, h1, h2, h3, h4, h5⟩
  · exact .inl h
  · exact .inr (.inl h)
  · by_cases hab : b = a
    · subst hab
      rw [h3] at ha
      cases ha
      refine .inr (.inr ⟨b, c, _, h1, h2, hX, fun j hj => ?_, h5⟩)
      obtain ⟨z, hz⟩ := h4 j hj
      have hjl : j < cs.length := by
        rcases Nat.lt_or_ge j cs.length with h | h
        · exact h
        · rw [List.getElem?_eq_none h] at hz; cases hz
      by_cases hjk : k = j
      · subst hjk; exact ⟨y, by simp [hjl]⟩
      · exact ⟨z, by rw [List.getElem?_set_ne hjk]; exact hz⟩
    · exact .inr (.inr ⟨b, c, ds, h1, h2, hf.get (by simpa using hab) h3, h4, h5⟩)
theorem DS.one {G H o v m} (h : DS G H o v m) : v.one = true := by
  rcases h with ⟨rfl, _⟩ | ⟨rfl, _⟩ | ⟨b, c, zs, rfl, _⟩ <;> rfl
theorem load_dat {ds : List Eo} {i : Nat} {zs : List HV} (h : i < ds.length) {off : Nat} (ho : off = i * 3 + 2) : loadv false 1 off (cellsO ds ++ zs) = some ds[i].v := by
  subst ho
  rw [loadv, if_pos (by rw [List.length_append, cellsO_len]; omega)]
  have := cellsO_get h zs
  have h2 : ((cellsO ds ++ zs).drop (i * 3 + 2)).take 1 = [ds[i].v] := by
    have e : ((cellsO ds ++ zs).drop (i * 3 + 2)).take 1 = (((cellsO ds ++ zs).drop (i * 3)).take 3).drop 2 := by
      rw [List.drop_take, List.drop_drop]
    rw [e, this]; rfl
  rw [h2]; rfl
theorem set_path {ds : List Eo} {i : Nat} {zs : List HV} (h : i < ds.length) (p : List UInt8) {off : Nat} (ho : off = i * 3) : setL (cellsO ds ++ zs) off [S p] = cellsO (ds.set i ⟨⟨p, ds[i].e.dir, ds[i].e.data⟩, ds[i].v⟩) ++ zs := by
  subst ho
  rw [← cellsO_set h, cellsO_split h]
  have hl : (cellsO (ds.take i)).length = i * 3 := by rw [cellsO_len, List.length_take]; congr 1; omega
  rw [List.append_assoc (_ ++ _), setL_mid (Y := cO ⟨⟨p, ds[i].e.dir, ds[i].e.data⟩, ds[i].v⟩) hl (by simp [cO])]
  have e : cellsO (ds.take i) ++ cO ds[i] ++ (cellsO (ds.drop (i + 1)) ++ zs) = cellsO (ds.take i) ++ [S ds[i].e.path] ++ ([B ds[i].e.dir, ds[i].v] ++ (cellsO (ds.drop (i + 1)) ++ zs)) := by
    rw [List.append_assoc, List.append_assoc]; rfl
  rw [e, setL_mid hl (by simp), List.append_assoc, List.append_assoc]; rfl
/-- What the loop over one's own keeps. -/
def PW (G H : Heap) (b n c : Nat) (ds : List Eo) : Prop := (∃ zs, H b = some (.obj (cellsO ds ++ zs))) ∧ ds.length = n ∧ ∀ d ∈ ds, DS G H b d.v d.e.data.length
theorem u8_wrap (a : UInt8) : IntKind.u8.wrap ((a.toNat : Int) + 1) = ((a + 1).toNat : Int) := by
  have h := a.toNat_lt
  have : (a + 1).toNat = (a.toNat + 1) % 256 := by rw [UInt8.toNat_add]; rfl
  rw [this]
  simp only [IntKind.wrap, IntKind.bits, IntKind.signed, Bool.false_and, Bool.false_eq_true, if_false]
  omega
attribute [local irreducible] csem rsem dsem seqK blockK normK finK DK RK JK BR G3 resK Spec Tok Fr

theorem puts_spec (L : Linked code) (tk : Tk) (l : List Ent) (x : Ent) : PureF L 225 [.sl tk 3 (l.map encE), encE x] (B true) := by
  intro H K hk
  refine go_spec L code225 rfl ?_
  repeat (refine gk entU ?_)
  (apply r_call; (focus rfl))
  refine light_spec L tk l 70 70000 (by decide) (by decide) H _ ?_
  cases c1 : light l 70 70000
  case false =>
    repeat (refine gk entU ?_)
    (apply r_call; (focus rfl))
    refine awake_spec L _ _ fun H1 f1 => ?_
    repeat (refine gk entU ?_)
    exact resK_some (hk H1 f1)
  obtain ⟨hl, ho⟩ := light_ok (by decide) c1
  repeat (refine gk entU ?_)
  (apply r_call; (focus rfl))
  refine light_spec L .full [x] 1 70000 (by decide) (by decide) H _ ?_
  cases c2 : light [x] 1 70000
  case false =>
    repeat (refine gk entU ?_)
    (apply r_call; (focus rfl))
    refine awake_spec L _ _ fun H1 f1 => ?_
    repeat (refine gk entU ?_)
    exact resK_some (hk H1 f1)
  obtain ⟨_, hx⟩ := light_ok (by decide) c2
  have hrl : (rremR l x.path).1.length ≤ 70 := by
    unfold rremR
    split
    · simp
    · split
      · simp
      · split
        · simp
        · exact Nat.le_trans (List.length_filter_le _ _) hl
  replace hx := hx x (by simp)
  repeat (refine gk entU ?_)
  (apply r_call; (focus rfl))
  refine rcopy_spec L tk l (by omega) ho H _ fun H1 f1 => ?_
  repeat (refine gk entU ?_)
  (apply r_call; (focus rfl))
  refine putO_spec L .no l x (by omega) ho hx _ _ (fun he H2 f2 => ?_) fun he b c ds H2 q1 q2 q3 f2 hb => ?_
  · have hnil : (rputR l x).1 = [] := by
      rw [← put_eq]
      unfold putR at he ⊢
      split <;> rename_i h1
      · rfl
      · rw [if_neg h1] at he
        split <;> rename_i h2
        · rfl
        · rw [if_neg h2] at he
          split <;> rename_i h3
          · rfl
          · rw [if_neg h3] at he; exact absurd rfl he
    repeat (refine gk entU ?_)
    (apply r_call; (focus rfl))
    refine rput_spec L tk l x (by omega) ho hx _ _ fun H3 f3 => ?_
    rw [put_eq, hnil]
    repeat (refine gk entU ?_)
    (apply r_call; (focus rfl))
    refine remove_spec L .no l x.path (by omega) ho _ _ fun H4 f4 => ?_
    rw [rem_eq]
    repeat (refine gk entU ?_)
    (apply r_call; (focus rfl))
    refine rremove_spec L tk l x.path (by omega) ho _ _ fun H5 f5 => ?_
    repeat (refine gk entU ?_)
    (apply r_call; (focus rfl))
    refine rsame_spec L .no .no [] [] (by simp) _ _ ?_
    rw [sameT_self]
    have e1 : ((rputR l x).2 == (rputR l x).2) = true := by simp
    have e2 : ((rremR l x.path).2 == (rremR l x.path).2) = true := by simp
    repeat (refine gk (And.intro entU e1) ?_)
    (apply r_call; (focus rfl))
    refine rsame_spec L .no .no _ _ (by have := hrl; omega) _ _ ?_
    rw [sameT_self]
    repeat (refine gk (And.intro entU e2) ?_)
    (apply r_call; (focus rfl))
    refine rsame_spec L .no tk l l (by omega) _ _ ?_
    rw [sameT_self]
    have f6 := (((f1.trans f2).trans f3).trans f4).trans f5
    repeat (refine gk entU ?_)
    refine c_loop (Spec_SMono L) (fun (_ : Unit) => [(0, .h (.sl tk 3 (l.map encE))), (5, .h (.sl .no 3 (l.map encE))), (6, .h (.sl .no 3 [])), (14, .h (B true)), (15, .h (I 0))]) (fun _ => []) (fun _ H' => H' = H5) (fun _ => 0) () ?_ rfl ?_
    · (refine leM ?_ ?_ ?_ <;> (repeat refine leS trivial ?_) <;> exact leE)
    rintro _ H' rfl
    repeat (refine gk entU ?_)
    (apply r_call; (focus rfl))
    refine rsame_spec L .no tk l l (by omega) _ _ ?_
    rw [sameT_self]
    repeat (refine gk entU ?_)
    (apply r_call; (focus rfl))
    refine awake_spec L _ _ fun H6 f7 => ?_
    repeat (refine gk entU ?_)
    exact resK_some (hk H6 (f6.trans f7))
  have hpl := putL_len l x
  have hp1 : (putR l x).1 = putL l x := by
    unfold putR at he ⊢
    split <;> rename_i h1
    · rw [if_pos h1] at he; exact absurd he h1
    · rw [if_neg h1] at he
      split <;> rename_i h2
      · rw [if_pos h2] at he; exact absurd he (by simp)
      · rw [if_neg h2] at he
        split <;> rename_i h3
        · rw [if_pos h3] at he; exact absurd he h3
        · rfl
  rw [hp1] at q1 q2
  rw [he, hp1]
  repeat (refine gk entU ?_)
  (apply r_call; (focus rfl))
  refine rput_spec L tk l x (by omega) ho hx _ _ fun H3 f3 => ?_
  rw [← put_eq, he, hp1]
  repeat (refine gk entU ?_)
  (apply r_call; (focus rfl))
  refine remove_spec L .no l x.path (by omega) ho _ _ fun H4 f4 => ?_
  rw [rem_eq]
  repeat (refine gk entU ?_)
  (apply r_call; (focus rfl))
  refine rremove_spec L tk l x.path (by omega) ho _ _ fun H5 f5 => ?_
  have g5 := (f3.trans f4).trans f5
  have f6 := (f1.trans f2).trans g5
  have q5 := q1.fr g5 (by simp)
  have d5 : ∀ d ∈ ds, DW H1 H5 b d.v d.e.data := fun d hd => (q3 d hd).fr g5 (by simp)
  have hv := q5.view d5
  rw [q2] at hv
  repeat (refine gk entU ?_)
  (apply r_call; (focus rfl))
  refine Spec.borrow (args' := [.sl .no 3 ((putL l x).map encE), .sl .no 3 ((putL l x).map encE)]) ⟨hv, VW.refl _ _, trivial⟩ (rsame_spec L .no .no (putL l x) (putL l x) (by omega) noR _ rfl) ?_
  rw [sameT_self]
  have e2 : ((rremR l x.path).2 == (rremR l x.path).2) = true := by simp
  repeat (refine gk entU ?_)
  (apply r_call; (focus rfl))
  refine rsame_spec L .no .no _ _ (by have := hrl; omega) _ _ ?_
  rw [sameT_self]
  repeat (refine gk (And.intro entU e2) ?_)
  (apply r_call; (focus rfl))
  refine rsame_spec L .no tk l l (by omega) _ _ ?_
  rw [sameT_self]
  repeat (refine gk entU ?_)
  obtain ⟨⟨zs, yb, _⟩, yl, yc, ym⟩ := id q5
  refine c_loop (Spec_SMono L) (fun (i : Nat) => [(0, .h (.sl tk 3 (l.map encE))), (5, .h (.sl .no 3 (l.map encE))), (6, .h (.v (.slice (some ⟨b, 0, none⟩) (putL l x).length c))), (14, .h (B true)), (15, .h (I i))]) (fun _ => [])
    (fun i H' => i ≤ (putL l x).length ∧ Fr [] H H' ∧ ∃ ds, PW H H' b (putL l x).length c ds) (fun i => (putL l x).length - i) 0 ?_ ⟨by omega, f6, ds, ⟨zs, yb⟩, yl, fun d hd => ((d5 d hd).base f1).ds⟩ ?_
  · (refine leM ?_ ?_ ?_ <;> (repeat refine leS trivial ?_) <;> exact leE)
  rintro i H' ⟨hi, hfr, ds, ⟨zs, yb⟩, yl, yd⟩
  repeat (refine gk entU ?_)
  (refine ct entU ?_ ?_ <;> intro h)
  · have hi' : i < (putL l x).length := by simpa using h
    have hid : i < ds.length := by omega
    obtain ⟨m, hm⟩ : ∃ m, ds[i].e.data.length = m := ⟨_, rfl⟩
    repeat (refine gk entU ?_)
    refine c_loop (Spec_SMono L) (fun (k : Nat) => [(0, .h (.sl tk 3 (l.map encE))), (5, .h (.sl .no 3 (l.map encE))), (6, .h (.v (.slice (some ⟨b, 0, none⟩) (putL l x).length c))), (14, .h (B true)), (15, .h (I i)), (16, .h (I k))]) (fun _ => [])
      (fun k H' => k ≤ m ∧ Fr [] H H' ∧ ∃ ds, PW H H' b (putL l x).length c ds ∧ ∃ h : i < ds.length, ds[i].e.data.length = m) (fun k => m - k) 0 ?_ ⟨by omega, hfr, ds, ⟨⟨zs, yb⟩, yl, yd⟩, hid, hm⟩ ?_
    · (refine leM ?_ ?_ ?_ <;> (repeat refine leS trivial ?_) <;> exact leE)
    clear hfr hid hm yb yl yd
    rintro k H2 ⟨hk', hfr, ds, ⟨⟨zs, yb⟩, yl, yd⟩, hid, hm⟩
    have hbn : H b = none := f1.none hb
    have hv1 := one_facts ((yd _ (List.getElem_mem hid)).one)
    repeat (refine gk entU ?_)
    apply r_idxO; (focus rfl); (focus rfl); (focus omega)
    repeat (refine gk entU ?_)
    apply r_load; (focus rfl); (focus exact yb); (focus exact load_dat hid (by omega))
    rcases (yd _ (List.getElem_mem hid)) with ⟨z1, z2⟩ | ⟨z1, z2⟩ | ⟨bi, ci, cs, z1, z2, z3, z4, z5, z6⟩
    · rw [z1]
      have hk0 : k = 0 := by omega
      subst hk0
      repeat (refine gk entU ?_)
      apply r_idxO; (focus rfl); (focus rfl); (focus omega)
      repeat (refine gk entU ?_)
      apply r_storeO; (focus rfl); (focus rfl); (focus rfl); (focus rfl); (focus exact yb); (focus (rw [List.length_append, cellsO_len]; omega))
      intro Y hY hfY
      have hY2 : Y b = some (.obj (cellsO (ds.set i ⟨⟨[63], ds[i].e.dir, ds[i].e.data⟩, ds[i].v⟩) ++ zs)) := by
        rw [← set_path hid [63] (off := i * 3) rfl, hY]
        congr 3
        omega
      have f8 := hfr.own hbn hfY
      have fP : PW H Y b (putL l x).length c (ds.set i ⟨⟨[63], ds[i].e.dir, ds[i].e.data⟩, ds[i].v⟩) := ⟨⟨zs, hY2⟩, by simpa using yl, fun d hd => by
        rcases List.mem_or_eq_of_mem_set hd with h | rfl
        · exact (yd d h).fr hfY (by simp)
        · exact (yd _ (List.getElem_mem hid)).fr hfY (by simp)⟩
      repeat (refine gk entU ?_)
      refine k_n (i + 1) (by omega) ⟨by omega, f8, _, fP⟩ ?_
      (refine leM ?_ ?_ ?_ <;> (repeat refine leS trivial ?_) <;> exact leE)
    · rw [z1]
      have hk0 : k = 0 := by omega
      subst hk0
      repeat (refine gk entU ?_)
      apply r_idxO; (focus rfl); (focus rfl); (focus omega)
      repeat (refine gk entU ?_)
      apply r_storeO; (focus rfl); (focus rfl); (focus rfl); (focus rfl); (focus exact yb); (focus (rw [List.length_append, cellsO_len]; omega))
      intro Y hY hfY
      have hY2 : Y b = some (.obj (cellsO (ds.set i ⟨⟨[63], ds[i].e.dir, ds[i].e.data⟩, ds[i].v⟩) ++ zs)) := by
        rw [← set_path hid [63] (off := i * 3) rfl, hY]
        congr 3
        omega
      have f8 := hfr.own hbn hfY
      have fP : PW H Y b (putL l x).length c (ds.set i ⟨⟨[63], ds[i].e.dir, ds[i].e.data⟩, ds[i].v⟩) := ⟨⟨zs, hY2⟩, by simpa using yl, fun d hd => by
        rcases List.mem_or_eq_of_mem_set hd with h | rfl
        · exact (yd d h).fr hfY (by simp)
        · exact (yd _ (List.getElem_mem hid)).fr hfY (by simp)⟩
      repeat (refine gk entU ?_)
      refine k_n (i + 1) (by omega) ⟨by omega, f8, _, fP⟩ ?_
      (refine leM ?_ ?_ ?_ <;> (repeat refine leS trivial ?_) <;> exact leE)
    · rw [z1]
      rw [hm] at z1 z4 z6
      rw [hm]
      repeat (refine gk entU ?_)
      (refine ct entU ?_ ?_ <;> intro h2)
      · have hk2 : k < m := by simpa using h2
        obtain ⟨y, hy⟩ := z4 k hk2
        have hkl : k < cs.length := by
          rcases Nat.lt_or_ge k cs.length with h | h
          · exact h
          · rw [List.getElem?_eq_none h] at hy; cases hy
        repeat (refine gk entU ?_)
        apply r_idxO; (focus rfl); (focus rfl); (focus omega)
        repeat (refine gk entU ?_)
        apply r_load; (focus rfl); (focus exact yb); (focus exact load_dat hid (by omega))
        rw [z1]
        repeat (refine gk entU ?_)
        apply r_idxO; (focus rfl); (focus rfl); (focus omega)
        have hld : loadv false 1 (0 + (k : Int).toNat * 1) cs = some (U y) := by
          rw [loadv, if_pos (by omega)]
          have e : 0 + (k : Int).toNat * 1 = k := by omega
          rw [e]
          have : (cs.drop k).take 1 = [U y] := by
            rw [List.drop_eq_getElem_cons hkl]
            rw [List.getElem?_eq_getElem hkl] at hy
            simp only [Option.some.injEq] at hy
            rw [hy]; rfl
          rw [this]; rfl
        apply r_load; (focus rfl); (focus exact z3); (focus exact hld)
        repeat (refine gk entU ?_)
        apply r_idxO; (focus rfl); (focus rfl); (focus omega)
        apply r_storeO; (focus rfl); (focus rfl); (focus rfl); (focus rfl); (focus exact z3); (focus omega)
        intro Y hY hfY
        have hY2 : Y bi = some (.obj (cs.set k (U (y + 1)))) := by
          rw [hY]
          have e : 0 + (k : Int).toNat * 1 = k := by omega
          rw [e]
          show some (Res.obj (setL cs k [.v (.int .u8 (IntKind.u8.wrap ((y.toNat : Int) + 1)))])) = _
          rw [u8_wrap]; rfl
        have f8 := hfr.own z5 hfY
        repeat (refine gk entU ?_)
        refine k_n (k + 1) (by omega) ⟨by omega, f8, ds, ⟨⟨zs, hfY.get (by simpa using fun h => z2 h.symm) yb⟩, yl, fun d hd => (yd d hd).put z3 hY2 hfY⟩, hid, hm⟩ ?_
        (refine leM ?_ ?_ ?_ <;> (repeat refine leS trivial ?_) <;> exact leE)
      · have hk2 : k = m := by have : ¬ k < m := by simpa using h2
                               omega
        subst hk2
        repeat (refine gk entU ?_)
        apply r_idxO; (focus rfl); (focus rfl); (focus omega)
        repeat (refine gk entU ?_)
        apply r_storeO; (focus rfl); (focus rfl); (focus rfl); (focus rfl); (focus exact yb); (focus (rw [List.length_append, cellsO_len]; omega))
        intro Y hY hfY
        have hY2 : Y b = some (.obj (cellsO (ds.set i ⟨⟨[63], ds[i].e.dir, ds[i].e.data⟩, ds[i].v⟩) ++ zs)) := by
          rw [← set_path hid [63] (off := i * 3) rfl, hY]
          congr 3
          omega
        have f8 := hfr.own hbn hfY
        have fP : PW H Y b (putL l x).length c (ds.set i ⟨⟨[63], ds[i].e.dir, ds[i].e.data⟩, ds[i].v⟩) := ⟨⟨zs, hY2⟩, by simpa using yl, fun d hd => by
          rcases List.mem_or_eq_of_mem_set hd with h | rfl
          · exact (yd d h).fr hfY (by simp)
          · exact (yd _ (List.getElem_mem hid)).fr hfY (by simp)⟩
        repeat (refine gk entU ?_)
        refine k_n (i + 1) (by omega) ⟨by omega, f8, _, fP⟩ ?_
        (refine leM ?_ ?_ ?_ <;> (repeat refine leS trivial ?_) <;> exact leE)
  · repeat (refine gk entU ?_)
    (apply r_call; (focus rfl))
    refine rsame_spec L .no tk l l (by omega) _ _ ?_
    rw [sameT_self]
    repeat (refine gk entU ?_)
    (apply r_call; (focus rfl))
    refine awake_spec L _ _ fun H6 f7 => ?_
    repeat (refine gk entU ?_)
    exact resK_some (hk H6 (hfr.trans f7))
end Sm
