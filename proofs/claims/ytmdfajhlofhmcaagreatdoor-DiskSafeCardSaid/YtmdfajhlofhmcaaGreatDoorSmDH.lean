/-
  A layer of one's own: texts D20,D21,D22,D23,D24,D25.
-/
import Derived.Test.YtmdfajhlofhmcaaGreatDoorSmDG
import Derived.Test.YtmdfajhlofhmcaaGreatDoorSmTD
set_option linter.unusedVariables false
set_option linter.unusedSimpArgs false
set_option maxRecDepth 10000
set_option maxHeartbeats 1000000
namespace Sm
open Go
-- BASE rkU
/-- The reference's values. -/
def rnV (n : Nm) : HV := .ag [S n.path, B n.dir, I n.id]
def rcV (c : Chg) : HV := .ag [.sl .no 3 (c.gone.map rnV), .sl .no 3 (c.came.map rnV)]
def rfV (f : Fl) : HV := .ag [S f.b, I f.safe]
def rkV (d : Dk) : HV := .ag [I d.room, .sl .no 3 (d.sure.map rnV), .sl .no 2 (d.loose.map rcV), .sl .no 2 (d.f.map rfV), B d.down, I d.ops, I d.fails, B d.done, I d.wrong]
theorem rkU : (∀ n : Nm, rnV n = .ag [S n.path, B n.dir, I n.id]) ∧ (∀ c : Chg, rcV c = .ag [.sl .no 3 (c.gone.map rnV), .sl .no 3 (c.came.map rnV)]) ∧ (∀ f : Fl, rfV f = .ag [S f.b, I f.safe]) ∧ (∀ d : Dk, rkV d = .ag [I d.room, .sl .no 3 (d.sure.map rnV), .sl .no 2 (d.loose.map rcV), .sl .no 2 (d.f.map rfV), B d.down, I d.ops, I d.fails, B d.done, I d.wrong]) ∧ (∀ e : Ent, encE e = .ag [S e.path, B e.dir, .sl .no 1 (e.data.map U)]) := ⟨fun _ => rfl, fun _ => rfl, fun _ => rfl, fun _ => rfl, fun _ => rfl⟩
/-- A slice that grows, from none. -/
def GA (H0 H : Heap) (sz : Nat) (v : HV) (es : List HV) : Prop := (v = .v (.slice none 0 0) ∧ es = []) ∨ ∃ tk, v = .sl tk sz es ∧ Tok H tk es.length sz ∧ Fresh H0 tk
theorem GA.nil (H0 H : Heap) (sz : Nat) : GA H0 H sz (.v (.slice none 0 0)) [] := .inl ⟨rfl, rfl⟩
theorem GA.fr {H0 H X : Heap} {sz : Nat} {v : HV} {es : List HV} (h : GA H0 H sz v es) (hf : Fr [] H X) : GA H0 X sz v es := by
  rcases h with h | ⟨tk, h1, h2, h3⟩
  · exact .inl h
  · exact .inr ⟨tk, h1, h2.fr' hf (by simp), h3⟩
theorem GA.weak {H0 H : Heap} {sz : Nat} {v : HV} {es : List HV} (h : GA H0 H sz v es) : Weak v (.sl .no sz es) := by
  rcases h with ⟨rfl, rfl⟩ | ⟨tk, rfl, h2, h3⟩
  · exact Weak.nil' sz
  · exact Weak.drop _ _ _
theorem GA.full (H0 H : Heap) (sz : Nat) (es : List HV) : GA H0 H sz (.sl .full sz es) es := .inr ⟨.full, rfl, Tok.ful _ _ _, by simp [Fresh, tb]⟩
theorem r_pushA {S' : SpecT} {sl : List (Nat × EV)} {bx : List (Nat × List HV)} {H0 H : Heap} {K : Env → Heap → Prop} {os : List SOper} {d sz bytes : Nat} {x y : Opd} {tk2 : Tk} {v : HV} {es ys : List HV} (hG : GA H0 H sz v es) (hf : Fr [] H0 H) (hx : (M sl bx).hv x = some v) (hy : (M sl bx).hv y = some (.sl tk2 sz ys)) (hl : (es.length + ys.length) * bytes ≤ 140737488355328)
    (hk : ∀ v' X, GA H0 X sz v' (es ++ ys) → Fr [] H0 X → rsem S' os (M ((d, .h v') :: sl) bx) X K) : rsem S' (⟨some d, .app sz bytes x y, none⟩ :: os) (M sl bx) H K := by
  rcases hG with ⟨rfl, rfl⟩ | ⟨tk, rfl, h2, h3⟩
  · refine r_app0 hx hy (by simpa using hl) (fun h0 => ?_) fun tk' X h0 h1 h4 => ?_
    · subst h0; exact hk _ _ (GA.nil _ _ _) hf
    · exact hk _ _ (.inr ⟨tk', by simp, by simpa using h1, (show Fresh H0 .full by simp [Fresh, tb]).apd hf h4⟩) (hf.apd (show Fresh H0 .full by simp [Fresh, tb]) h4)
  · refine r_app hx hy h2 hl fun tk' X h1 h4 => ?_
    exact hk _ _ (.inr ⟨tk', rfl, by simpa using h1, h3.apd hf h4⟩) (hf.apd h3 h4)
theorem tw_at {α : Type} {p : α → Bool} : ∀ {l : List α} {i : Nat}, i ≤ l.length → (∀ y ∈ l.take i, p y = true) → (∀ h : i < l.length, p l[i] = false) → l.takeWhile p = l.take i ∧ l.dropWhile p = l.drop i
  | [], i, h, _, _ => by simp at h; subst h; simp
  | a :: l, 0, _, _, h => by
    have := h (by simp)
    simp only [List.getElem_cons_zero] at this
    simp [this]
  | a :: l, i + 1, h1, h2, h3 => by
    have ha : p a = true := h2 a (by simp)
    have := tw_at (l := l) (i := i) (by simpa using h1) (fun y hy => h2 y (by simp [hy])) (fun h => h3 (Nat.succ_lt_succ h))
    simp [ha, this.1, this.2]
attribute [local irreducible] csem rsem dsem seqK blockK normK finK DK RK JK BR G3 resK Spec Tok Fr CV

theorem rlaid_spec (L : Linked code) (l : List Nm) (x : Nm) (hl : l.length < 1048576) (ho : ∀ e ∈ l, e.path.length ≤ 1048576) (hx : x.path.length ≤ 1048576) : PureF L 370 [.sl .no 3 (l.map rnV), rnV x] (.sl .no 3 ((laidN l x).map rnV)) := by
  intro H K hk
  refine go_spec L code370 rfl ?_
  repeat (refine gk rkU ?_)
  refine c_loop (Spec_SMono L) (fun (i : Nat) => [(0, .h (.sl .no 3 (l.map rnV))), (3, .lp 0 0), (5, .h (I i))]) (fun _ => [(0, [S x.path, B x.dir, I x.id])])
    (fun i H' => i ≤ l.length ∧ Fr [] H H' ∧ ∀ y ∈ l.take i, lessP y.path x.path = true) (fun i => l.length - i) 0 ?_ ⟨by simp, Fr.refl _ _, by simp⟩ ?_
  · (refine leM ?_ ?_ ?_ <;> (repeat refine leS trivial ?_) <;> exact leE)
  rintro i H' ⟨hi, hf, hall⟩
  repeat (refine gk rkU ?_)
  cases c1 : decide ((i : Int) < (l.length : Int))
  case false =>
    have hi' : i = l.length := by have : ¬ i < l.length := by simpa using c1
                                  omega
    have hla : laidN l x = l.take i ++ [x] ++ l.drop i := by
      obtain ⟨e1, e2⟩ := tw_at hi hall (fun h => by omega)
      rw [laidN, e1, e2]; simp
    repeat (refine gk rkU ?_)
    apply r_slcH (k := i); (focus rfl); (focus rfl); (focus rfl); (focus (simp; omega))
    repeat (refine gk rkU ?_)
    apply r_slcD (k := i); (focus rfl); (focus rfl); (focus rfl); (focus (simp; omega))
    repeat (refine gk rkU ?_)
    rw [← List.map_take, ← List.map_drop]
    refine r_pushA (GA.nil H H' 3) hf rfl rfl (by simp; omega) fun v1 X1 g1 f1 => ?_
    repeat (refine gk rkU ?_)
    refine r_pushA (ys := [rnV x]) g1 f1 rfl rfl (by simp; omega) fun v2 X2 g2 f2 => ?_
    repeat (refine gk rkU ?_)
    refine r_pushA g2 f2 rfl rfl (by simp; omega) fun v3 X3 g3 f3 => ?_
    have e3 : [] ++ (l.take i).map rnV ++ [rnV x] ++ (l.drop i).map rnV = (laidN l x).map rnV := by rw [hla]; simp
    rw [e3] at g3
    repeat (refine gk rkU ?_)
    exact resK_weak g3.weak (hk X3 f3)
  have hi' : i < l.length := by simpa using c1
  have hmem := List.getElem_mem hi'
  have hs := List.take_succ_eq_append_getElem hi'
  have hnx : ∀ h : i < l.length, l[i] = l[i] := fun _ => rfl
  repeat (refine gk rkU ?_)
  (apply r_call; (focus rfl))
  refine rless_spec L l[i].path x.path (ho _ hmem) hx H' _ fun H2 f2 => ?_
  have hf2 := hf.trans f2
  repeat (refine gk rkU ?_)
  cases c2 : lessP l[i].path x.path
  case true =>
    repeat (refine gk rkU ?_)
    refine k_n (i + 1) (by omega) ⟨by omega, hf2, fun y hy => ?_⟩ ?_
    · rw [hs] at hy
      rcases List.mem_append.mp hy with hy | hy
      · exact hall y hy
      · rw [List.mem_singleton] at hy; subst hy; exact c2
    · (refine leM ?_ ?_ ?_ <;> (repeat refine leS trivial ?_) <;> exact leE)
  case false =>
    have hla : laidN l x = l.take i ++ [x] ++ l.drop i := by
      obtain ⟨e1, e2⟩ := tw_at hi hall (fun _ => c2)
      rw [laidN, e1, e2]; simp
    repeat (refine gk rkU ?_)
    apply r_slcH (k := i); (focus rfl); (focus rfl); (focus rfl); (focus (simp; omega))
    repeat (refine gk rkU ?_)
    apply r_slcD (k := i); (focus rfl); (focus rfl); (focus rfl); (focus (simp; omega))
    repeat (refine gk rkU ?_)
    rw [← List.map_take, ← List.map_drop]
    refine r_pushA (GA.nil H H2 3) hf2 rfl rfl (by simp; omega) fun v1 X1 g1 f1 => ?_
    repeat (refine gk rkU ?_)
    refine r_pushA (ys := [rnV x]) g1 f1 rfl rfl (by simp; omega) fun v2 X2 g2 f2 => ?_
    repeat (refine gk rkU ?_)
    refine r_pushA g2 f2 rfl rfl (by simp; omega) fun v3 X3 g3 f3 => ?_
    have e3 : [] ++ (l.take i).map rnV ++ [rnV x] ++ (l.drop i).map rnV = (laidN l x).map rnV := by rw [hla]; simp
    rw [e3] at g3
    repeat (refine gk rkU ?_)
    exact resK_weak g3.weak (hk X3 f3)
end Sm

set_option linter.unusedVariables false
set_option linter.unusedSimpArgs false
set_option maxRecDepth 10000
set_option maxHeartbeats 1000000
namespace Sm
open Go
-- BASE rkU
theorem any_take {α : Type} {p : α → Bool} {l : List α} {i : Nat} (h : i < l.length) : (l.take (i + 1)).any p = ((l.take i).any p || p l[i]) := by
  rw [List.take_succ_eq_append_getElem h, List.any_append]; simp only [List.any_cons, List.any_nil, Bool.or_false]
theorem foldl_take {α β : Type} {f : β → α → β} {l : List α} {i : Nat} {b : β} (h : i < l.length) : (l.take (i + 1)).foldl f b = f ((l.take i).foldl f b) l[i] := by
  rw [List.take_succ_eq_append_getElem h, List.foldl_append]; rfl
theorem laids_len (cs : List Nm) : ∀ l : List Nm, (cs.foldl laidN l).length = l.length + cs.length := by
  induction cs with
  | nil => intro l; rfl
  | cons c cs ih => intro l; rw [List.foldl_cons, ih, laidN_len, List.length_cons]; omega
theorem laids_mem {P : Nm → Prop} (cs : List Nm) : ∀ l : List Nm, (∀ x ∈ l, P x) → (∀ x ∈ cs, P x) → ∀ x ∈ cs.foldl laidN l, P x := by
  induction cs with
  | nil => intro l h _; exact h
  | cons c cs ih =>
    intro l h hc
    rw [List.foldl_cons]
    refine ih _ (fun x hx => ?_) (fun x hx => hc x (by simp [hx]))
    rcases (laidN_mem).mp hx with h1 | h1
    · subst h1; exact hc _ (by simp)
    · exact h x h1
attribute [local irreducible] csem rsem dsem seqK blockK normK finK DK RK JK BR G3 resK Spec Tok Fr CV GA

theorem rwith_spec (L : Linked code) (l : List Nm) (c : Chg) (hl : l.length < 1048000) (ho : ∀ e ∈ l, e.path.length ≤ 1048576) (hc : ∀ e ∈ c.came, e.path.length ≤ 1048576) : PureF L 368 [.sl .no 3 (l.map rnV), rcV c] (.sl .no 3 ((appC l c).map rnV)) := by
  intro H K hk
  have hgl : c.gone.length ≤ 2 := by unfold Chg.gone; split <;> simp
  have hcl : c.came.length ≤ 1 := by unfold Chg.came; split <;> simp
  refine go_spec L code368 rfl ?_
  repeat (refine gk rkU ?_)
  refine c_loop (Spec_SMono L) (fun (q : Nat × HV) => [(0, .h (.sl .no 3 (l.map rnV))), (3, .lp 0 0), (5, .h q.2), (6, .h (I q.1))]) (fun _ => [(0, [.sl .no 3 (c.gone.map rnV), .sl .no 3 (c.came.map rnV)])])
    (fun q H' => q.1 ≤ l.length ∧ Fr [] H H' ∧ GA H H' 3 q.2 (((l.take q.1).filter fun n => !goneN c n).map rnV)) (fun q => l.length - q.1) (0, _) ?_ ⟨by simp, Fr.refl _ _, GA.nil _ _ _⟩ ?_
  · (refine leM ?_ ?_ ?_ <;> (repeat refine leS trivial ?_) <;> exact leE)
  rintro ⟨i, v⟩ H' ⟨hi, hf, hg⟩
  dsimp only at hi hf hg ⊢
  repeat (refine gk rkU ?_)
  (refine ct rkU ?_ ?_ <;> intro h)
  · have hi' : i < l.length := by simpa using h
    have hs := List.take_succ_eq_append_getElem hi'
    have hmem := List.getElem_mem hi'
    have hfl := List.length_filter_le (fun n => !goneN c n) (l.take i)
    rw [List.length_take] at hfl
    repeat (refine gk rkU ?_)
    refine c_loop (Spec_SMono L) (fun (k : Nat) => [(0, .h (.sl .no 3 (l.map rnV))), (3, .lp 0 0), (5, .h v), (6, .h (I i)), (7, .h (B ((c.gone.take k).any fun g => g.path == l[i].path))), (8, .h (I k))]) (fun _ => [(0, [.sl .no 3 (c.gone.map rnV), .sl .no 3 (c.came.map rnV)])])
      (fun k X => k ≤ c.gone.length ∧ X = H') (fun k => c.gone.length - k) 0 ?_ ⟨by simp, rfl⟩ ?_
    · (refine leM ?_ ?_ ?_ <;> (repeat refine leS trivial ?_) <;> exact leE)
    rintro k X ⟨hk1, rfl⟩
    repeat (refine gk rkU ?_)
    (refine ct rkU ?_ ?_ <;> intro h2)
    · have hk' : k < c.gone.length := by simpa using h2
      have hany := any_take (p := fun g : Nm => g.path == l[i].path) hk'
      repeat (refine gk rkU ?_)
      cases c1 : (c.gone.take k).any fun g => g.path == l[i].path
      case true =>
        rw [c1, Bool.true_or] at hany
        repeat (refine gk rkU ?_)
        refine k_n (k + 1) (by omega) ⟨by omega, rfl⟩ ?_
        (refine leM ?_ ?_ ?_ <;> (repeat refine leS (And.intro rkU hany) ?_) <;> exact leE)
      rw [c1, Bool.false_or] at hany
      repeat (refine gk rkU ?_)
      refine k_n (k + 1) (by omega) ⟨by omega, rfl⟩ ?_
      (refine leM ?_ ?_ ?_ <;> (repeat refine leS (And.intro rkU hany) ?_) <;> exact leE)
    have hk' : k = c.gone.length := by have : ¬ k < c.gone.length := by simpa using h2
                                       omega
    subst hk'
    rw [List.take_length]
    have hgo : (c.gone.any fun g => g.path == l[i].path) = goneN c l[i] := rfl
    rw [hgo]
    repeat (refine gk rkU ?_)
    cases c3 : goneN c l[i]
    case true =>
      simp only [Bool.not_true]
      repeat (refine gk rkU ?_)
      refine k_n (i + 1, v) (by simp only; omega) ⟨by simp only; omega, hf, ?_⟩ ?_
      · simp only [hs, List.filter_append, List.map_append]; simpa [c3] using hg
      · (refine leM ?_ ?_ ?_ <;> (repeat refine leS trivial ?_) <;> exact leE)
    simp only [Bool.not_false]
    repeat (refine gk rkU ?_)
    refine r_pushA (ys := [rnV l[i]]) hg hf rfl rfl (by simp only [List.length_map, List.length_cons, List.length_nil]; omega) fun v1 X1 g1 f1 => ?_
    repeat (refine gk rkU ?_)
    refine k_n (i + 1, v1) (by simp only; omega) ⟨by simp only; omega, f1, ?_⟩ ?_
    · simp only [hs, List.filter_append, List.map_append]; simpa [c3] using g1
    · (refine leM ?_ ?_ ?_ <;> (repeat refine leS trivial ?_) <;> exact leE)
  have hi' : i = l.length := by have : ¬ i < l.length := by simpa using h
                                omega
  subst hi'
  rw [List.take_length] at hg
  have hfl := List.length_filter_le (fun n => !goneN c n) l
  have hof : ∀ e ∈ l.filter (fun n => !goneN c n), e.path.length ≤ 1048576 := fun e he => ho e (List.mem_filter.mp he).1
  unfold appC at hk
  generalize l.filter (fun n => !goneN c n) = m at *
  repeat (refine gk rkU ?_)
  refine c_loop (Spec_SMono L) (fun (q : Nat × HV) => [(3, .lp 0 0), (5, .h q.2), (9, .h (I q.1))]) (fun _ => [(0, [.sl .no 3 (c.gone.map rnV), .sl .no 3 (c.came.map rnV)])])
    (fun q X => q.1 ≤ c.came.length ∧ Fr [] H X ∧ Weak q.2 (.sl .no 3 (((c.came.take q.1).foldl laidN m).map rnV))) (fun q => c.came.length - q.1) (0, v) ?_ ⟨by simp, hf, hg.weak⟩ ?_
  · (refine leM ?_ ?_ ?_ <;> (repeat refine leS trivial ?_) <;> exact leE)
  rintro ⟨k, w⟩ X ⟨hk1, hfX, hw⟩
  dsimp only at hk1 hfX hw ⊢
  repeat (refine gk rkU ?_)
  (refine ct rkU ?_ ?_ <;> intro h2)
  · have hk' : k < c.came.length := by simpa using h2
    have hft := foldl_take (f := laidN) (b := m) hk'
    have hln := laids_len (c.came.take k) m
    rw [List.length_take] at hln
    repeat (refine gk rkU ?_)
    (apply r_call; (focus rfl))
    refine Spec_weak (hs' := [.sl .no 3 (((c.came.take k).foldl laidN m).map rnV), rnV c.came[k]]) (show WeakL [w, rnV c.came[k]] _ from ⟨hw, Weak.refl _, trivial⟩) ?_
    refine rlaid_spec L ((c.came.take k).foldl laidN m) c.came[k] (by omega) (laids_mem _ _ hof fun x hx => hc x (List.mem_of_mem_take hx)) (hc _ (List.getElem_mem hk')) X _ fun X2 f2 => ?_
    repeat (refine gk rkU ?_)
    refine k_n (k + 1, _) (by simp only; omega) ⟨by simp only; omega, hfX.trans f2, by rw [hft]; exact Weak.refl _⟩ ?_
    (refine leM ?_ ?_ ?_ <;> (repeat refine leS trivial ?_) <;> exact leE)
  have hk' : k = c.came.length := by have : ¬ k < c.came.length := by simpa using h2
                                     omega
  subst hk'
  rw [List.take_length] at hw
  repeat (refine gk rkU ?_)
  exact resK_weak hw (hk X hfX)
end Sm

set_option linter.unusedVariables false
set_option linter.unusedSimpArgs false
set_option maxRecDepth 10000
set_option maxHeartbeats 1000000
namespace Sm
open Go
-- BASE rkU
def nmZ (o : Option Nm) : Nm := o.getD ⟨[], false, 0⟩
theorem Dk.WF.took {d : Dk} {n m : Nat} (h : d.WF n m) (i : Nat) : (appAll d.sure (d.loose.take i)).length ≤ n ∧ ∀ x ∈ appAll d.sure (d.loose.take i), chkP x.path = 0 := by
  have h1 := appAll_len (d.loose.take i) d.sure
  have h2 : (d.loose.take i).length ≤ d.loose.length := by rw [List.length_take]; omega
  have := h.len
  exact ⟨by omega, appAll_ok (P := fun x => chkP x.path = 0) (fun x hx => (h.ids x hx).2.2) fun c hc x hx => ((h.idc c (List.mem_of_mem_take hc)).1 x hx).2.2⟩
theorem find_take {α : Type} {p : α → Bool} {l : List α} {i : Nat} (h : i < l.length) (hn : ∀ y ∈ l.take i, p y = false) (hp : p l[i] = true) : l.find? p = some l[i] := by
  rw [List.find?_eq_some_iff_getElem]
  exact ⟨hp, i, h, rfl, fun j hj => by
    have := hn (l[j]'(by omega)) (List.mem_take_iff_getElem.mpr ⟨j, by omega, rfl⟩)
    rw [this]; rfl⟩
attribute [local irreducible] csem rsem dsem seqK blockK normK finK DK RK JK BR G3 resK Spec Tok Fr CV GA

theorem rnames_spec (L : Linked code) (d : Dk) (n m : Nat) (hw : d.WF n m) (hn : n < 1048000) : PureF L 352 [rkV d] (.sl .no 3 (d.now.map rnV)) := by
  intro H K hk
  have hll := hw.len
  refine go_spec L code352 rfl ?_
  repeat (refine gk rkU ?_)
  refine c_loop (Spec_SMono L) (fun (q : Nat) => [(1, .lp 0 0), (3, .h (.sl .no 3 ((appAll d.sure (d.loose.take q)).map rnV))), (4, .h (I q))]) (fun _ => [(0, [I d.room, .sl .no 3 (d.sure.map rnV), .sl .no 2 (d.loose.map rcV), .sl .no 2 (d.f.map rfV), B d.down, I d.ops, I d.fails, B d.done, I d.wrong])])
    (fun q X => q ≤ d.loose.length ∧ Fr [] H X) (fun q => d.loose.length - q) 0 ?_ ⟨by simp, Fr.refl _ _⟩ ?_
  · (refine leM ?_ ?_ ?_ <;> (repeat refine leS trivial ?_) <;> exact leE)
  rintro k X ⟨hk1, hf⟩
  repeat (refine gk rkU ?_)
  (refine ct rkU ?_ ?_ <;> intro h2)
  · have hk' : k < d.loose.length := by simpa using h2
    have hs := appAll_succ (l := d.sure) hk'
    have ht := hw.took k
    repeat (refine gk rkU ?_)
    (apply r_call; (focus rfl))
    refine rwith_spec L (appAll d.sure (d.loose.take k)) d.loose[k] (by omega) (fun e he => by have := chkP_len (ht.2 e he); omega) (fun e he => by have := chkP_len ((hw.idc _ (List.getElem_mem hk')).1 e he).2.2; omega) X _ fun X2 f2 => ?_
    rw [← hs]
    repeat (refine gk rkU ?_)
    refine k_n (k + 1) (by omega) ⟨by omega, hf.trans f2⟩ ?_
    (refine leM ?_ ?_ ?_ <;> (repeat refine leS trivial ?_) <;> exact leE)
  have hk' : k = d.loose.length := by have : ¬ k < d.loose.length := by simpa using h2
                                      omega
  subst hk'
  have hnow : appAll d.sure (d.loose.take d.loose.length) = d.now := by rw [List.take_length]; rfl
  rw [hnow]
  repeat (refine gk rkU ?_)
  exact resK_some (hk X hf)
theorem rgetN_spec (L : Linked code) (d : Dk) (p : List UInt8) (n m : Nat) (hw : d.WF n m) (hn : n < 1048000) : PureF L 358 [rkV d, S p] (.tu [rnV (nmZ (getN d.now p)), B (getN d.now p).isSome]) := by
  intro H K hk
  have hlen := hw.now_len
  refine go_spec L code358 rfl ?_
  repeat (refine gk rkU ?_)
  (apply r_call; (focus rfl))
  refine rnames_spec L d n m hw hn H _ fun X1 f1 => ?_
  repeat (refine gk rkU ?_)
  unfold getN at hk
  generalize d.now = l at *
  refine c_loop (Spec_SMono L) (fun (q : Nat) => [(1, .h (S p)), (4, .lp 1 0), (5, .h (B false)), (6, .h (.sl .no 3 (l.map rnV))), (7, .h (I q))]) (fun _ => [(1, [S [], B false, I 0])])
    (fun q X => q ≤ l.length ∧ X = X1 ∧ ∀ y ∈ l.take q, (y.path == p) = false) (fun q => l.length - q) 0 ?_ ⟨by simp, rfl, by simp⟩ ?_
  · (refine leM ?_ ?_ ?_ <;> (repeat refine leS trivial ?_) <;> exact leE)
  rintro k X ⟨hk1, rfl, hall⟩
  repeat (refine gk rkU ?_)
  (refine ct rkU ?_ ?_ <;> intro h2)
  · have hk' : k < l.length := by simpa using h2
    have hs := List.take_succ_eq_append_getElem hk'
    repeat (refine gk rkU ?_)
    cases c1 : l[k].path == p
    case true =>
      have hfi := find_take (p := fun n : Nm => n.path == p) hk' hall c1
      rw [hfi] at hk
      repeat (refine gk rkU ?_)
      exact resK_some (hk X f1)
    repeat (refine gk rkU ?_)
    refine k_n (k + 1) (by omega) ⟨by omega, rfl, fun y hy => ?_⟩ ?_
    · rw [hs] at hy
      rcases List.mem_append.mp hy with hy | hy
      · exact hall y hy
      · rw [List.mem_singleton] at hy; subst hy; exact c1
    · (refine leM ?_ ?_ ?_ <;> (repeat refine leS trivial ?_) <;> exact leE)
  have hk' : k = l.length := by have : ¬ k < l.length := by simpa using h2
                                omega
  subst hk'
  rw [List.take_length] at hall
  have hfi : l.find? (fun n => n.path == p) = none := List.find?_eq_none.mpr fun x hx => by rw [hall x hx]; decide
  rw [hfi] at hk
  repeat (refine gk rkU ?_)
  exact resK_some (hk X f1)
theorem rparN_spec (L : Linked code) (d : Dk) (p : List UInt8) (hp : p.length ≤ 1048576) (n m : Nat) (hw : d.WF n m) (hn : n < 1048000) : PureF L 360 [rkV d, S p] (I (parD d.now p)) := by
  intro H K hk
  unfold parD at hk
  refine go_spec L code360 rfl ?_
  repeat (refine gk rkU ?_)
  (apply r_call; (focus rfl))
  refine rparent_spec L p hp _ _ ?_
  repeat (refine gk rkU ?_)
  cases c1 : parL p == []
  case true =>
    rw [if_pos (by simpa using c1)] at hk
    repeat (refine gk rkU ?_)
    exact resK_some (hk H (Fr.refl _ _))
  rw [if_neg (by simpa using c1)] at hk
  repeat (refine gk rkU ?_)
  (apply r_call; (focus rfl))
  refine rgetN_spec L d (parL p) n m hw hn H _ fun X1 f1 => ?_
  cases c2 : getN d.now (parL p) with
  | none =>
    rw [c2] at hk
    simp only [nmZ, Option.getD, Option.isSome]
    repeat (refine gk rkU ?_)
    exact resK_some (hk X1 f1)
  | some x =>
    rw [c2] at hk
    simp only [nmZ, Option.getD, Option.isSome]
    repeat (refine gk rkU ?_)
    cases c3 : x.dir
    case true =>
      simp only [c3, if_true, Bool.not_true] at hk ⊢
      repeat (refine gk rkU ?_)
      exact resK_some (hk X1 f1)
    simp only [c3, Bool.false_eq_true, if_false, Bool.not_false] at hk ⊢
    repeat (refine gk rkU ?_)
    exact resK_some (hk X1 f1)
theorem rfileN_spec (L : Linked code) (d : Dk) (p : List UInt8) (n m : Nat) (hw : d.WF n m) (hn : n < 1048000) : PureF L 355 [rkV d, S p] (.tu [rnV (nmZ (getN d.now p)), I (fileD d.now p)]) := by
  intro H K hk
  unfold fileD at hk
  refine go_spec L code355 rfl ?_
  repeat (refine gk rkU ?_)
  (apply r_call; (focus rfl))
  refine rgetN_spec L d p n m hw hn H _ fun X1 f1 => ?_
  cases c2 : getN d.now p with
  | none =>
    rw [c2] at hk
    simp only [nmZ, Option.getD, Option.isSome] at hk ⊢
    repeat (refine gk rkU ?_)
    exact resK_some (hk X1 f1)
  | some x =>
    rw [c2] at hk
    obtain ⟨xp, xd, xi⟩ := x
    simp only [nmZ, Option.getD, Option.isSome] at hk ⊢
    repeat (refine gk rkU ?_)
    cases xd
    case true =>
      simp only [if_true] at hk ⊢
      repeat (refine gk rkU ?_)
      exact resK_some (hk X1 f1)
    simp only [Bool.false_eq_true, if_false] at hk ⊢
    repeat (refine gk rkU ?_)
    exact resK_some (hk X1 f1)
end Sm

set_option linter.unusedVariables false
set_option linter.unusedSimpArgs false
set_option maxRecDepth 10000
set_option maxHeartbeats 1000000
namespace Sm
open Go
-- BASE rkU
theorem GA.one {H0 H : Heap} {sz : Nat} {v : HV} {es : List HV} (h : GA H0 H sz v es) : v.one = true ∧ v.el = true ∧ v.ncells = 1 ∧ v.cells = [v] := by
  rcases h with ⟨rfl, rfl⟩ | ⟨tk, rfl, _⟩ <;> exact ⟨rfl, rfl, rfl, rfl⟩
theorem setL_app : ∀ (vs : List HV) (A B C : List HV), B.length = vs.length → setL (A ++ B ++ C) A.length vs = A ++ vs ++ C
  | [], A, B, C, h => by
    have : B = [] := List.eq_nil_of_length_eq_zero (by simpa using h)
    subst this; simp [setL]
  | v :: vs, A, [], C, h => by simp at h
  | v :: vs, A, b :: B, C, h => by
    rw [setL]
    have e1 : (A ++ b :: B ++ C).set A.length v = (A ++ [v]) ++ B ++ C := by simp
    rw [e1]
    have := setL_app vs (A ++ [v]) B C (by simpa using h)
    rw [List.length_append, List.length_singleton] at this
    rw [this]; simp
theorem set_row {α : Type} {g : α → HV} {k : Nat} (hg : ∀ a, (g a).cells.length = k) {l : List α} {i : Nat} (h : i < l.length) (a : α) (zs : List HV) :
    setL ((l.map g).flatMap HV.cells ++ zs) (i * k) (g a).cells = ((l.set i a).map g).flatMap HV.cells ++ zs := by
  have hl : l = l.take i ++ l[i] :: l.drop (i + 1) := by rw [← List.drop_eq_getElem_cons h, List.take_append_drop]
  have hlen : ∀ m : List α, ((m.map g).flatMap HV.cells).length = m.length * k := by
    intro m
    induction m with
    | nil => simp
    | cons x m ih => rw [List.map_cons, List.flatMap_cons, List.length_append, ih, hg, List.length_cons, Nat.succ_mul]; omega
  have h1 : ((l.map g).flatMap HV.cells ++ zs) = ((l.take i).map g).flatMap HV.cells ++ (g l[i]).cells ++ (((l.drop (i + 1)).map g).flatMap HV.cells ++ zs) := by
    conv => lhs; rw [hl]
    simp only [List.map_append, List.map_cons, List.flatMap_append, List.flatMap_cons, List.append_assoc]
  have h2 : l.set i a = l.take i ++ a :: l.drop (i + 1) := List.set_eq_take_append_cons_drop.trans (by rw [if_pos h])
  have h3 : (((l.take i).map g).flatMap HV.cells).length = i * k := by rw [hlen, List.length_take]; congr 1; omega
  rw [h1, h2, ← h3, setL_app _ _ _ _ (by rw [hg, hg])]
  simp
theorem vs_bx {sl : List (Nat × EV)} {bx : List (Nat × List HV)} {H : Heap} {k b : Nat} {cs0 cs1 cs : List HV} (hk : (M sl bx).box k = some cs0) (hb : H b = some (.obj cs)) (hw : FWL b cs cs0 cs1) (h1 : cs1.all HV.one = true) : VS (M sl bx) H (M sl ((k, cs1) :: bx)) (H.upd b none) := by
  have hbox : ∀ j, (M sl ((k, cs1) :: bx)).box j = if k = j then some cs1 else (M sl bx).box j := fun j => by
    simp only [M, lq_cons, upd, Env.box]
  refine VS.freeze hb (fun s x hs => ⟨x, hs, .inl rfl⟩) (fun j c1 hj => ?_) (fun s j o hs hj => ?_) (fun a r' ha => ?_)
  · rw [hbox] at hj
    by_cases hkj : k = j
    · subst hkj
      rw [if_pos rfl] at hj
      simp only [Option.some.injEq] at hj; subst hj
      exact ⟨cs0, hk, .inr ⟨hw, h1⟩⟩
    · rw [if_neg hkj] at hj
      exact ⟨c1, hj, .inl rfl⟩
  · rw [hbox]
    split
    · rfl
    · exact hj
  · simp only [Heap.upd] at ha
    split at ha
    · cases ha
    · rename_i hab
      exact ⟨hab, r', ha, .inl rfl⟩
theorem rchange_cells (d : Dk) (c : Chg) : rkV (d.chg c) = .ag [I d.room, .sl .no 3 (d.sure.map rnV), .sl .no 2 ((d.loose ++ [c]).map rcV), .sl .no 2 (d.f.map rfV), B d.down, I d.ops, I d.fails, B d.done, I d.wrong] := rfl
theorem rlen_f (l : List Fl) (k : Nat) (h : l.length = k) : ((l.map rfV).flatMap HV.cells).length = k * 2 := by
  subst h
  induction l with
  | nil => rfl
  | cons x l ih => rw [List.map_cons, List.flatMap_cons, List.length_append, ih, List.length_cons]; show 2 + _ = _; omega
attribute [local irreducible] csem rsem dsem seqK blockK normK finK DK RK JK BR G3 resK Spec Tok Fr CV GA

theorem rasked_spec (L : Linked code) (d : Dk) (p : List UInt8) (hp : p.length ≤ 1048576) : PureF L 354 [rkV d, S p] (I (d.asked p)) := by
  intro H K hk
  unfold Dk.asked at hk
  refine go_spec L code354 rfl ?_
  repeat (refine gk rkU ?_)
  cases c1 : d.down
  case true =>
    rw [if_pos c1] at hk
    repeat (refine gk rkU ?_)
    exact resK_some (hk H (Fr.refl _ _))
  rw [if_neg (by simp [c1])] at hk
  repeat (refine gk rkU ?_)
  (apply r_call; (focus rfl))
  refine rcheck_spec L p hp H _ fun X1 f1 => ?_
  repeat (refine gk rkU ?_)
  exact resK_some (hk X1 f1)
theorem rchange_spec (L : Linked code) (d : Dk) (c : Chg) (hl : d.loose.length < 1048576) : PureF L 359 [rkV d, .sl .no 3 (c.gone.map rnV), .sl .no 3 (c.came.map rnV)] (rkV (d.chg c)) := by
  intro H K hk
  rw [rchange_cells] at hk
  refine go_spec L code359 rfl ?_
  repeat (refine gk rkU ?_)
  refine r_pushA (GA.nil H H 2) (Fr.refl _ _) rfl rfl (by simp; omega) fun v1 X1 g1 f1 => ?_
  repeat (refine gk rkU ?_)
  refine r_pushA (ys := [rcV c]) g1 f1 rfl rfl (by simp; omega) fun v2 X2 g2 f2 => ?_
  have e2 : [] ++ d.loose.map rcV ++ [rcV c] = (d.loose ++ [c]).map rcV := by simp
  rw [e2] at g2
  have h2 := g2.one
  repeat (refine gk rkU ?_)
  apply r_storeb; (focus rfl); (focus exact h2.2.2.1); (focus exact h2.2.1); (focus rfl); (focus rfl); (focus rfl); (focus (rw [h2.2.2.2]))
  have e0 : setL [I d.room, HV.sl .no 3 (d.sure.map rnV), .sl .no 2 (d.loose.map rcV), .sl .no 2 (d.f.map rfV), B d.down, I d.ops, I d.fails, B d.done, I d.wrong] (0 + 2) [v2] = [I d.room, HV.sl .no 3 (d.sure.map rnV), v2, .sl .no 2 (d.f.map rfV), B d.down, I d.ops, I d.fails, B d.done, I d.wrong] := rfl
  rw [e0]
  repeat (refine gk rkU ?_)
  apply r_storeb; (focus rfl); (focus rfl); (focus (show (HV.ag _).el = true; simp only [HV.el, List.all_cons, h2.1, List.take, List.drop]; rfl)); (focus rfl); (focus rfl); (focus rfl); (focus rfl)
  repeat (refine gk rkU ?_)
  have hwk : Weak (.ag [I d.room, .sl .no 3 (d.sure.map rnV), v2, .sl .no 2 (d.f.map rfV), B d.down, I d.ops, I d.fails, B d.done, I d.wrong]) (.ag [I d.room, .sl .no 3 (d.sure.map rnV), .sl .no 2 ((d.loose ++ [c]).map rcV), .sl .no 2 (d.f.map rfV), B d.down, I d.ops, I d.fails, B d.done, I d.wrong]) :=
    Weak.ag ⟨Weak.refl _, Weak.refl _, g2.weak, Weak.refl _, Weak.refl _, Weak.refl _, Weak.refl _, Weak.refl _, Weak.refl _, trivial⟩ rfl
  exact resK_weak hwk (hk X2 f2)
theorem rset_spec (L : Linked code) (d : Dk) (i : Nat) (f : Fl) (hi : i < d.f.length) (hl : d.f.length < 1048576) : PureF L 356 [rkV d, I i, rfV f] (rkV { d with f := d.f.set i f }) := by
  intro H K hk
  refine go_spec L code356 rfl ?_
  repeat (refine gk rkU ?_)
  apply r_appE; (focus rfl); (focus rfl); (focus rfl); (focus (rw [List.length_map]; omega)); (focus (rw [List.length_map]; omega))
  intro b c zs X h1 h2 h3 h4 h5 h6 f6
  rw [List.length_map] at *
  repeat (refine gk rkU ?_)
  apply r_idxO; (focus rfl); (focus rfl); (focus omega)
  apply r_storeO; (focus rfl); (focus rfl); (focus rfl); (focus rfl); (focus exact h6); (focus (rw [List.length_append, rlen_f _ _ rfl]; omega))
  intro Y y1 y2
  have e5 : (d.f.map rfV).flatMap HV.cells ++ zs = (d.f.map rfV).flatMap HV.cells ++ zs := rfl
  have e6 : setL ((d.f.map rfV).flatMap HV.cells ++ zs) (0 + (i : Int).toNat * 2) (HV.ag [S f.b, I f.safe]).cells = ((d.f.set i f).map rfV).flatMap HV.cells ++ zs := by
    rw [Nat.zero_add]; exact set_row (g := rfV) (k := 2) (fun _ => rfl) hi f zs
  rw [e6] at y1
  have hfl : (((d.f.set i f).map rfV).flatMap HV.cells).length = d.f.length * 2 := rlen_f _ _ (by simp)
  have hfw : FW b (((d.f.set i f).map rfV).flatMap HV.cells ++ zs) (.v (.slice (some ⟨b, 0, none⟩) d.f.length c)) (.sl .no 2 ((d.f.set i f).map rfV)) := by
    refine FW.slice ?_ ?_ (by simp) h2 h3 ?_ ?_
    · rw [List.take_append_of_le_length (by omega), List.take_of_length_le (by omega)]
    · rw [List.length_append]; omega
    · rw [List.all_eq_true]; intro x hx; obtain ⟨y, _, rfl⟩ := List.mem_map.mp hx; rfl
    · intro x hx; obtain ⟨y, _, rfl⟩ := List.mem_map.mp hx; rfl
  have hvw : FWL b (((d.f.set i f).map rfV).flatMap HV.cells ++ zs) [I d.room, HV.sl .no 3 (d.sure.map rnV), .sl .no 2 (d.loose.map rcV), .v (.slice (some ⟨b, 0, none⟩) d.f.length c), B d.down, I d.ops, I d.fails, B d.done, I d.wrong]
    [I d.room, HV.sl .no 3 (d.sure.map rnV), .sl .no 2 (d.loose.map rcV), .sl .no 2 ((d.f.set i f).map rfV), B d.down, I d.ops, I d.fails, B d.done, I d.wrong] :=
    ⟨FW.refl _ _ _, FW.refl _ _ _, FW.refl _ _ _, hfw, FW.refl _ _ _, FW.refl _ _ _, FW.refl _ _ _, FW.refl _ _ _, FW.refl _ _ _, trivial⟩
  refine r_nil (n_n (s_v (vs_bx (k := 0) rfl y1 hvw rfl) ?_))
  have hfr : Fr [] H (Y.upd b none) := Fr.give (f6.own h1 y2) h1
  repeat (refine gk rkU ?_)
  exact resK_some (hk _ hfr)
end Sm

set_option linter.unusedVariables false
set_option linter.unusedSimpArgs false
set_option maxRecDepth 10000
set_option maxHeartbeats 1000000
namespace Sm
open Go
-- BASE rkU
theorem tickD_pos {n : Int} (h : 0 ≤ n) : tickD n = n - 1 := by unfold tickD; rw [if_neg (by omega)]
theorem tickD_neg {n : Int} (h : ¬ 0 ≤ n) (h1 : -1 ≤ n) : tickD n = n := by unfold tickD; rw [if_pos (by omega)]; omega
attribute [local irreducible] csem rsem dsem seqK blockK normK finK DK RK JK BR G3 resK Spec Tok Fr CV GA

theorem rstep_spec (L : Linked code) (d e : Dk) (n m : Nat) (hw : d.WF n m) (hn : n < 1048000) : PureF L 357 [rkV d, rkV e] (.tu [rkV (d.step e).1, I (d.step e).2]) := by
  intro H K hk
  have h1 := hw.fa
  have h2 := hw.wr
  have h3 := hw.op
  refine go_spec L code357 rfl ?_
  repeat (refine gk rkU ?_)
  cases c1 : d.fails == 0 <;> (repeat (refine gk rkU ?_))
  all_goals (cases c2 : d.wrong == 0 <;> (repeat (refine gk rkU ?_)))
  all_goals (cases c3 : decide (0 ≤ d.fails))
  all_goals (try (exfalso; simp only [beq_iff_eq, decide_eq_false_iff_not] at c1 c3; omega))
  all_goals (repeat (refine gk rkU ?_))
  all_goals (cases c4 : decide (0 ≤ d.wrong))
  all_goals (try (exfalso; simp only [beq_iff_eq, decide_eq_false_iff_not] at c2 c4; omega))
  all_goals (repeat (refine gk rkU ?_))
  all_goals (cases c5 : d.done)
  all_goals (try simp only [Bool.not_true, Bool.not_false])
  all_goals (repeat (refine gk rkU ?_))
  all_goals (simp only [beq_iff_eq, beq_eq_false_iff_ne, ne_eq, decide_eq_true_eq, decide_eq_false_iff_not] at c1 c2 c3 c4)
  all_goals (refine resK_some ?_; have hk2 := hk H (Fr.refl _ _); unfold Dk.step at hk2)
  all_goals (first | rw [if_pos c1] at hk2 | rw [if_neg c1] at hk2)
  all_goals (try (first | rw [if_pos c2] at hk2 | rw [if_neg c2] at hk2))
  all_goals (try (first | rw [if_pos c5] at hk2 | rw [if_neg (by rw [c5]; decide)] at hk2))
  all_goals (first | rw [tickD_pos c3] at hk2 | rw [tickD_neg c3 h1.1] at hk2)
  all_goals (first | rw [tickD_pos c4] at hk2 | rw [tickD_neg c4 h2.1] at hk2)
  all_goals (try rw [c5] at hk2)
  all_goals exact hk2
end Sm

set_option linter.unusedVariables false
set_option linter.unusedSimpArgs false
set_option maxRecDepth 10000
set_option maxHeartbeats 1000000
namespace Sm
open Go
-- BASE rkU
theorem rkW {v1 v2 v3 : HV} {d : Dk} (h1 : Weak v1 (.sl .no 3 (d.sure.map rnV))) (h2 : Weak v2 (.sl .no 2 (d.loose.map rcV))) (h3 : Weak v3 (.sl .no 2 (d.f.map rfV))) :
    Weak (.ag [I d.room, v1, v2, v3, B d.down, I d.ops, I d.fails, B d.done, I d.wrong]) (rkV d) :=
  Weak.ag ⟨Weak.refl _, h1, h2, h3, Weak.refl _, Weak.refl _, Weak.refl _, Weak.refl _, Weak.refl _, trivial⟩ rfl
attribute [local irreducible] csem rsem dsem seqK blockK normK finK DK RK JK BR G3 resK Spec Tok Fr CV GA

theorem rmake_spec (L : Linked code) (d : Dk) (p : List UInt8) (dir : Bool) (hp : p.length ≤ 1048576) (n m : Nat) (hw : d.WF n m) (hn : n < 1048000) : PureF L 353 [rkV d, S p, B dir] (.tu [rkV (d.put p dir).1, I (d.put p dir).2]) := by
  intro H K hk
  unfold Dk.put at hk
  have hfl := hw.fl
  have hln := hw.len
  refine go_spec L code353 rfl ?_
  repeat (refine gk rkU ?_)
  (apply r_call; (focus rfl))
  refine rasked_spec L d p hp H _ fun X1 f1 => ?_
  cases c1 : d.asked p == 0
  case false =>
    have c1n : (d.asked p != 0) = true := by rw [bne, c1]; rfl
    rw [if_pos (by simpa using c1n)] at hk
    repeat (refine gk (And.intro rkU (And.intro c1 c1n)) ?_)
    (apply r_call; (focus rfl))
    refine rgetN_spec L d p n m hw hn X1 _ fun X2 f2 => ?_
    repeat (refine gk (And.intro rkU (And.intro c1 c1n)) ?_)
    exact resK_some (hk X2 (f1.trans f2))
  have e1 : d.asked p = 0 := by simpa using c1
  rw [if_neg (by simp [e1])] at hk
  rw [e1]
  repeat (refine gk rkU ?_)
  (apply r_call; (focus rfl))
  refine rparN_spec L d p hp n m hw hn X1 _ fun X2 f2 => ?_
  cases c2 : parD d.now p == 0
  case false =>
    have c2n : (parD d.now p != 0) = true := by rw [bne, c2]; rfl
    rw [if_pos (by simpa using c2n)] at hk
    repeat (refine gk rkU ?_)
    (apply r_call; (focus rfl))
    refine rgetN_spec L d p n m hw hn X2 _ fun X3 f3 => ?_
    repeat (refine gk (And.intro rkU (And.intro c2 c2n)) ?_)
    exact resK_some (hk X3 ((f1.trans f2).trans f3))
  have e2 : parD d.now p = 0 := by simpa using c2
  rw [if_neg (by simp [e2])] at hk
  rw [e2]
  repeat (refine gk rkU ?_)
  (apply r_call; (focus rfl))
  refine rgetN_spec L d p n m hw hn X2 _ fun X3 f3 => ?_
  have f03 := (f1.trans f2).trans f3
  repeat (refine gk rkU ?_)
  cases c3 : (getN d.now p).isSome
  case true =>
    rw [c3, if_pos rfl] at hk
    repeat (refine gk rkU ?_)
    exact resK_some (hk X3 f03)
  rw [c3, if_neg (by decide)] at hk
  cases dir
  case true =>
    simp only [if_true] at hk
    repeat (refine gk rkU ?_)
    (apply r_call; (focus rfl))
    refine Spec_weak (hs' := [rkV d, .sl .no 3 ((Chg.mk ⟨p, true, 0⟩).gone.map rnV), .sl .no 3 ((Chg.mk ⟨p, true, 0⟩).came.map rnV)]) (show WeakL [rkV d, .v (.slice none 0 0), .sl .full 3 [rnV ⟨p, true, 0⟩]] _ from ⟨Weak.refl _, Weak.nil' 3, Weak.drop _ _ _, trivial⟩) ?_
    refine rchange_spec L d (.mk ⟨p, true, 0⟩) (by omega) X3 _ fun X4 f4 => ?_
    repeat (refine gk rkU ?_)
    (apply r_call; (focus rfl))
    refine rstep_spec L d _ n m hw hn X4 _ fun X5 f5 => ?_
    repeat (refine gk rkU ?_)
    exact resK_some (hk X5 ((f03.trans f4).trans f5))
  simp only [Bool.false_eq_true, if_false] at hk
  repeat (refine gk rkU ?_)
  refine r_pushA (GA.full H X3 2 []) f03 rfl rfl (by simp; omega) fun v1 X4 g4 f4 => ?_
  repeat (refine gk rkU ?_)
  refine r_pushA (ys := [rfV ⟨[], 0⟩]) g4 f4 rfl rfl (by simp; omega) fun v2 X5 g5 f5 => ?_
  have e5 : [] ++ d.f.map rfV ++ [rfV ⟨[], 0⟩] = (d.f ++ [(⟨[], 0⟩ : Fl)]).map rfV := by simp
  rw [e5] at g5
  have h5 := g5.one
  repeat (refine gk rkU ?_)
  apply r_storeb; (focus rfl); (focus exact h5.2.2.1); (focus exact h5.2.1); (focus rfl); (focus rfl); (focus rfl); (focus (rw [h5.2.2.2]))
  have e0 : setL [I d.room, HV.sl .no 3 (d.sure.map rnV), .sl .no 2 (d.loose.map rcV), .sl .no 2 (d.f.map rfV), B d.down, I d.ops, I d.fails, B d.done, I d.wrong] (0 + 3) [v2] = [I d.room, HV.sl .no 3 (d.sure.map rnV), .sl .no 2 (d.loose.map rcV), v2, B d.down, I d.ops, I d.fails, B d.done, I d.wrong] := rfl
  rw [e0]
  repeat (refine gk rkU ?_)
  (apply r_call; (focus rfl))
  refine Spec_weak (hs' := [rkV { d with f := d.f ++ [⟨[], 0⟩] }, .sl .no 3 ((Chg.mk ⟨p, false, d.f.length⟩).gone.map rnV), .sl .no 3 ((Chg.mk ⟨p, false, d.f.length⟩).came.map rnV)])
    (show WeakL [.ag [I d.room, .sl .no 3 (d.sure.map rnV), .sl .no 2 (d.loose.map rcV), v2, B d.down, I d.ops, I d.fails, B d.done, I d.wrong], .v (.slice none 0 0), .sl .full 3 [rnV ⟨p, false, d.f.length⟩]] _ from ⟨rkW (d := { d with f := d.f ++ [⟨[], 0⟩] }) (Weak.refl _) (Weak.refl _) g5.weak, Weak.nil' 3, Weak.drop _ _ _, trivial⟩) ?_
  refine rchange_spec L { d with f := d.f ++ [⟨[], 0⟩] } (.mk ⟨p, false, d.f.length⟩) (by show d.loose.length < _; omega) X5 _ fun X6 f6 => ?_
  repeat (refine gk rkU ?_)
  (apply r_call; (focus rfl))
  refine rstep_spec L d _ n m hw hn X6 _ fun X7 f7 => ?_
  repeat (refine gk rkU ?_)
  exact resK_some (hk X7 ((f5.trans f6).trans f7))
theorem rcreate_spec (L : Linked code) (d : Dk) (p : List UInt8) (hp : p.length ≤ 1048576) (n m : Nat) (hw : d.WF n m) (hn : n < 1048000) : PureF L 320 [rkV d, S p] (.tu [rkV (d.put p false).1, I (d.put p false).2]) := by
  intro H K hk
  refine go_spec L code320 rfl ?_
  repeat (refine gk rkU ?_)
  (apply r_call; (focus rfl))
  refine rmake_spec L d p false hp n m hw hn H _ fun X1 f1 => ?_
  repeat (refine gk rkU ?_)
  exact resK_some (hk X1 f1)
theorem rmkdir_spec (L : Linked code) (d : Dk) (p : List UInt8) (hp : p.length ≤ 1048576) (n m : Nat) (hw : d.WF n m) (hn : n < 1048000) : PureF L 324 [rkV d, S p] (.tu [rkV (d.put p true).1, I (d.put p true).2]) := by
  intro H K hk
  refine go_spec L code324 rfl ?_
  repeat (refine gk rkU ?_)
  (apply r_call; (focus rfl))
  refine rmake_spec L d p true hp n m hw hn H _ fun X1 f1 => ?_
  repeat (refine gk rkU ?_)
  exact resK_some (hk X1 f1)
end Sm
