/-
  A layer of one's own: texts T11,T12,T13,T14,T15.
-/
import Derived.Test.YtpfccegjkhaidaaGreatDoorSmTB
set_option linter.unusedVariables false
set_option linter.unusedSimpArgs false
set_option maxRecDepth 10000
set_option maxHeartbeats 1000000
namespace Sm
open Go
-- BASE entU
attribute [local irreducible] csem rsem dsem seqK blockK normK finK DK RK JK BR G3 resK Spec Tok Fr

theorem one_spec (L : Linked code) (tk : Tk) (l : List Ent) (i : Nat) (hi : i < l.length) (hl : l.length ≤ 1048576) (ho : ∀ e ∈ l, okE e) : PureF L 190 [.sl tk 3 (l.map encE), I i] (I (chkE (l.take i) l[i])) := by
  intro H K hk
  have hx : okE l[i] := ho _ (List.getElem_mem hi)
  unfold chkE at hk
  refine go_spec L code190 rfl ?_
  repeat (refine gb entU ?_)
  (apply r_call; (focus rfl))
  refine rcheck_spec L l[i].path hx.1 H _ fun H1 f1 => ?_
  repeat (refine gb entU ?_)
  refine c_join (Spec_SMono L) (ι := Unit) (fun _ => [(0, .h (.sl tk 3 (l.map encE))), (1, .h (I i)), (5, .lp 0 0)]) (fun _ => [(0, [S l[i].path, B l[i].dir, .sl .no 1 (l[i].data.map U)])])
    (fun _ H' => Fr [] H H' ∧ (chkP l[i].path != 0) = false ∧ hpB l[i].path pre = false ∧ ¬ 65536 < l[i].data.length ∧ (l[i].dir && decide (0 < l[i].data.length)) = false ∧ lastBad (l.take i) l[i] = false) ?_ ?_
  · repeat (refine gk entU ?_)
    cases c1 : (chkP l[i].path != 0)
    case true =>
      rw [if_pos (by simpa [bne] using c1)] at hk
      repeat (refine gk entU ?_)
      exact resK_some (hk H1 f1)
    rw [if_neg (by simpa [bne] using c1)] at hk
    repeat (refine gk entU ?_)
    (apply r_call; (focus rfl))
    refine rres_spec L l[i].path H1 _ ?_
    repeat (refine gk entU ?_)
    cases c2 : hpB l[i].path pre
    case true =>
      rw [if_pos c2] at hk
      repeat (refine gk entU ?_)
      exact resK_some (hk H1 f1)
    rw [if_neg (by simp [c2])] at hk
    repeat (refine gk entU ?_)
    cases c3 : decide ((65536 : Int) < (l[i].data.length : Int))
    case true =>
      rw [if_pos (by simp only [decide_eq_true_eq] at c3; omega)] at hk
      repeat (refine gk entU ?_)
      exact resK_some (hk H1 f1)
    have h3 : ¬ 65536 < l[i].data.length := by simp only [decide_eq_false_iff_not] at c3; omega
    rw [if_neg h3] at hk
    repeat (refine gk entU ?_)
    cases d : l[i].dir
    case false =>
      have e4 : (false && decide (0 < l[i].data.length)) = false := rfl
      rw [d] at hk
      rw [if_neg (by simp)] at hk
      repeat (refine gk (And.intro entU d) ?_)
      cases c5 : decide ((0 : Int) < (i : Int))
      case false =>
        have ha : i = 0 := by simp only [decide_eq_false_iff_not] at c5; omega
        have hb : lastBad (l.take i) l[i] = false := by subst ha; rfl
        repeat (refine gk (And.intro entU d) ?_)
        refine j_n () ⟨f1, (by first | exact c1 | rfl), (by first | exact c2 | rfl), h3, (by first | exact e4 | (rw [d]; exact e4)), hb⟩ ?_
        (refine leM ?_ ?_ ?_ <;> (repeat refine leS trivial ?_) <;> exact leE)
      case true =>
        have ha : 0 < i := by simpa using c5
        repeat (refine gk (And.intro entU d) ?_)
        apply r_idx (j := i - 1); (focus rfl); (focus rfl); (focus omega); (focus exact get_enc (by omega)); (focus (simp only [entU, nf, Nat.reduceAdd, Nat.reduceLeDiff] <;> rfl))
        repeat (refine gk (And.intro entU d) ?_)
        (apply r_call; (focus rfl))
        refine rless_spec L (l[i - 1]'(by omega)).path l[i].path (ho _ (List.getElem_mem _)).1 hx.1 H1 _ fun H2 f2 => ?_
        have hlb : lastBad (l.take i) l[i] = !lessP (l[i - 1]'(by omega)).path l[i].path := by
          rw [lastBad_get (by simp; omega)]
          simp only [List.getElem_take, List.length_take, show min i l.length - 1 = i - 1 by omega]
        rw [hlb] at hk
        cases c6 : lessP (l[i - 1]'(by omega)).path l[i].path
        · rw [c6] at hk
          rw [if_pos (show (!false) = true from rfl)] at hk
          repeat (refine gk (And.intro entU d) ?_)
          exact resK_some (hk H2 (f1.trans f2))
        · have hb : lastBad (l.take i) l[i] = false := by rw [hlb, c6]; rfl
          repeat (refine gk (And.intro entU d) ?_)
          refine j_n () ⟨f1.trans f2, (by first | exact c1 | rfl), (by first | exact c2 | rfl), h3, (by first | exact e4 | (rw [d]; exact e4)), hb⟩ ?_
          (refine leM ?_ ?_ ?_ <;> (repeat refine leS trivial ?_) <;> exact leE)
    case true =>
      rw [d] at hk
      repeat (refine gk (And.intro entU d) ?_)
      cases c4 : decide ((0 : Int) < (l[i].data.length : Int))
      case true =>
        rw [if_pos (by simp only [decide_eq_true_eq] at c4; simp; omega)] at hk
        repeat (refine gk (And.intro entU d) ?_)
        exact resK_some (hk H1 f1)
      have e4 : (true && decide (0 < l[i].data.length)) = false := by
        have : ¬ 0 < l[i].data.length := by simp only [decide_eq_false_iff_not] at c4; omega
        rw [decide_eq_false this]; rfl
      rw [if_neg (by rw [e4]; simp)] at hk
      repeat (refine gk (And.intro entU d) ?_)
      cases c5 : decide ((0 : Int) < (i : Int))
      case false =>
        have ha : i = 0 := by simp only [decide_eq_false_iff_not] at c5; omega
        have hb : lastBad (l.take i) l[i] = false := by subst ha; rfl
        repeat (refine gk (And.intro entU d) ?_)
        refine j_n () ⟨f1, (by first | exact c1 | rfl), (by first | exact c2 | rfl), h3, (by first | exact e4 | (rw [d]; exact e4)), hb⟩ ?_
        (refine leM ?_ ?_ ?_ <;> (repeat refine leS trivial ?_) <;> exact leE)
      case true =>
        have ha : 0 < i := by simpa using c5
        repeat (refine gk (And.intro entU d) ?_)
        apply r_idx (j := i - 1); (focus rfl); (focus rfl); (focus omega); (focus exact get_enc (by omega)); (focus (simp only [entU, nf, Nat.reduceAdd, Nat.reduceLeDiff] <;> rfl))
        repeat (refine gk (And.intro entU d) ?_)
        (apply r_call; (focus rfl))
        refine rless_spec L (l[i - 1]'(by omega)).path l[i].path (ho _ (List.getElem_mem _)).1 hx.1 H1 _ fun H2 f2 => ?_
        have hlb : lastBad (l.take i) l[i] = !lessP (l[i - 1]'(by omega)).path l[i].path := by
          rw [lastBad_get (by simp; omega)]
          simp only [List.getElem_take, List.length_take, show min i l.length - 1 = i - 1 by omega]
        rw [hlb] at hk
        cases c6 : lessP (l[i - 1]'(by omega)).path l[i].path
        · rw [c6] at hk
          rw [if_pos (show (!false) = true from rfl)] at hk
          repeat (refine gk (And.intro entU d) ?_)
          exact resK_some (hk H2 (f1.trans f2))
        · have hb : lastBad (l.take i) l[i] = false := by rw [hlb, c6]; rfl
          repeat (refine gk (And.intro entU d) ?_)
          refine j_n () ⟨f1.trans f2, (by first | exact c1 | rfl), (by first | exact c2 | rfl), h3, (by first | exact e4 | (rw [d]; exact e4)), hb⟩ ?_
          (refine leM ?_ ?_ ?_ <;> (repeat refine leS trivial ?_) <;> exact leE)
  · rintro _ H2 ⟨f2, c1, c2, h3, c4, c5⟩
    rw [if_neg (by simpa [bne] using c1), if_neg (by simp [c2]), if_neg h3, if_neg (by simp [c4]), if_neg (by simp [c5])] at hk
    repeat (refine gk entU ?_)
    (apply r_call; (focus rfl))
    refine rparent_spec L l[i].path hx.1 H2 _ ?_
    repeat (refine gk entU ?_)
    cases c6 : (parL l[i].path == [])
    case true =>
      rw [if_pos (by simpa using c6)] at hk
      repeat (refine gk entU ?_)
      exact resK_some (hk H2 f2)
    rw [if_neg (by simpa using c6)] at hk
    repeat (refine gk entU ?_)
    apply r_slcp (i := i) (es' := (l.take i).map encE); (focus rfl); (focus rfl); (focus rfl); (focus (simp; omega)); (focus exact (List.map_take ..).symm)
    repeat (refine gk entU ?_)
    (apply r_call; (focus rfl))
    refine rget_spec L _ (l.take i) (parL l[i].path) (by simp; omega) H2 _ ?_
    replace hk := hk H2 f2
    generalize getR (l.take i) (parL l[i].path) = g at hk ⊢
    obtain ⟨d, is⟩ := g
    simp only at hk ⊢
    cases is
    · repeat (refine gk entU ?_)
      exact resK_some hk
    · repeat (refine gk entU ?_)
      cases c7 : d.dir
      · rw [c7] at hk
        simp only [Bool.not_true, Bool.false_eq_true, if_false, Bool.not_false, if_true] at hk
        repeat (refine gk (And.intro entU c7) ?_)
        simp only [Bool.not_true, Bool.not_false]
        repeat (refine gk (And.intro entU c7) ?_)
        exact resK_some hk
      · rw [c7] at hk
        simp only [Bool.not_true, Bool.false_eq_true, if_false, Bool.not_false, if_true] at hk
        repeat (refine gk (And.intro entU c7) ?_)
        simp only [Bool.not_true, Bool.not_false]
        repeat (refine gk (And.intro entU c7) ?_)
        exact resK_some hk
theorem tcheck_spec (L : Linked code) (tk : Tk) (l : List Ent) (hl : l.length ≤ 1048576) (ho : ∀ e ∈ l, okE e) : PureF L 175 [.sl tk 3 (l.map encE)] (I (chkT l)) := by
  intro H K hk
  unfold chkT at hk
  refine go_spec L code175 rfl ?_
  repeat (refine gk entU ?_)
  cases c1 : decide ((64 : Int) < (l.length : Int))
  case true =>
    rw [if_pos (by simp only [decide_eq_true_eq] at c1; omega)] at hk
    repeat (refine gk entU ?_)
    exact resK_some (hk H (Fr.refl _ _))
  rw [if_neg (by simp only [decide_eq_false_iff_not] at c1; omega)] at hk
  repeat (refine gk entU ?_)
  refine c_loop (Spec_SMono L) (fun (i : Nat) => [(0, .h (.sl tk 3 (l.map encE))), (3, .h (I i))]) (fun _ => [])
    (fun i H' => i ≤ l.length ∧ Fr [] H H' ∧ chkAll [] l = chkAll (l.take i) (l.drop i)) (fun i => l.length - i) 0 ?_ ⟨by omega, Fr.refl _ _, rfl⟩ ?_
  · (refine leM ?_ ?_ ?_ <;> (repeat refine leS trivial ?_) <;> exact leE)
  rintro i H' ⟨hi, hfr, he⟩
  repeat (refine gk entU ?_)
  (refine ct entU ?_ ?_ <;> intro h)
  · have hi' : i < l.length := by simpa using h
    rw [chkAll_step hi'] at he
    repeat (refine gk entU ?_)
    (apply r_call; (focus rfl))
    refine one_spec L tk l i hi' hl ho H' _ fun H2 f2 => ?_
    repeat (refine gk entU ?_)
    cases c2 : (chkE (l.take i) l[i] != 0)
    · rw [if_neg (by simpa [bne] using c2)] at he
      repeat (refine gk entU ?_)
      refine k_n (i + 1) (by omega) ⟨by omega, hfr.trans f2, he⟩ ?_
      (refine leM ?_ ?_ ?_ <;> (repeat refine leS trivial ?_) <;> exact leE)
    · rw [if_pos (by simpa [bne] using c2)] at he
      have := hk H2 (hfr.trans f2)
      rw [he] at this
      repeat (refine gk entU ?_)
      exact resK_some this
  · have hi' : i = l.length := by have : ¬ i < l.length := by simpa using h
                                  omega
    subst hi'
    rw [List.drop_of_length_le (Nat.le_refl _)] at he
    have := hk H' hfr
    rw [he] at this
    repeat (refine gk entU ?_)
    exact resK_some this
end Sm

set_option linter.unusedVariables false
set_option linter.unusedSimpArgs false
set_option maxRecDepth 10000
set_option maxHeartbeats 1000000
namespace Sm
open Go
-- BASE entU
/-- The cells of entries, one behind the other. -/
def cE (e : Ent) : List HV := [S e.path, B e.dir, .sl .no 1 (e.data.map U)]
def cellsE (l : List Ent) : List HV := l.flatMap cE
theorem encE_cells (e : Ent) : (encE e).cells = cE e := rfl
theorem flat_encE (l : List Ent) : (l.map encE).flatMap HV.cells = cellsE l := by
  simp [cellsE, List.flatMap_map, encE_cells]
theorem cellsE_len (l : List Ent) : (cellsE l).length = l.length * 3 := by
  induction l with
  | nil => rfl
  | cons e l ih => simp only [cellsE, List.flatMap_cons, List.length_append, List.length_cons] at ih ⊢; rw [ih]; simp [cE]; omega
theorem cellsE_app (a b : List Ent) : cellsE (a ++ b) = cellsE a ++ cellsE b := by simp [cellsE]
theorem cellsE_split {l : List Ent} {i : Nat} (h : i < l.length) : cellsE l = cellsE (l.take i) ++ cE l[i] ++ cellsE (l.drop (i + 1)) := by
  have h1 := List.take_append_drop i l
  rw [List.drop_eq_getElem_cons h] at h1
  have h2 := congrArg cellsE h1
  rw [← h2, cellsE_app, List.append_assoc]
  rfl
theorem cellsE_one (l : List Ent) : (cellsE l).all HV.one = true := by
  rw [List.all_eq_true]
  intro x hx
  simp only [cellsE, List.mem_flatMap] at hx
  obtain ⟨e, _, he⟩ := hx
  simp only [cE, List.mem_cons, List.not_mem_nil, or_false] at he
  rcases he with rfl | rfl | rfl <;> rfl
theorem cellsE_get {l : List Ent} {i : Nat} (h : i < l.length) (zs : List HV) : ((cellsE l ++ zs).drop (i * 3)).take 3 = cE l[i] := by
  rw [cellsE_split h]
  have hl : (cellsE (l.take i)).length = i * 3 := by rw [cellsE_len, List.length_take]; congr 1; omega
  rw [List.append_assoc, List.append_assoc, List.drop_append_of_le_length (by omega), List.drop_of_length_le (by omega), List.nil_append, List.take_append_of_le_length (by simp [cE])]
  exact List.take_of_length_le (by simp [cE])
theorem setL_mid {A X Y Z : List HV} {i : Nat} (hi : A.length = i) (hx : X.length = Y.length) : setL (A ++ X ++ Z) i Y = A ++ Y ++ Z := by
  subst hi
  rw [setL_eq _ _ _ (by simp [hx]), ← hx]
  have e1 : (A ++ X ++ Z).take A.length = A := by rw [List.append_assoc, List.take_left]
  have e2 : (A ++ X ++ Z).drop (A.length + X.length) = Z := by rw [← List.length_append, List.drop_left]
  rw [e1, e2]
theorem cellsE_set {l : List Ent} {i : Nat} (h : i < l.length) (e : Ent) (zs : List HV) : setL (cellsE l ++ zs) (i * 3) (cE e) = cellsE (l.set i e) ++ zs := by
  have hl : (cellsE (l.take i)).length = i * 3 := by rw [cellsE_len, List.length_take]; congr 1; omega
  rw [cellsE_split h, List.append_assoc, setL_mid hl (by simp [cE])]
  have h2 : i < (l.set i e).length := by simpa using h
  rw [cellsE_split h2]
  simp [List.take_set_of_le, List.drop_set_of_lt]
attribute [local irreducible] csem rsem dsem seqK blockK normK finK DK RK JK BR G3 resK Spec Tok Fr

theorem r_loadO {S' : SpecT} {sl : List (Nat × EV)} {bx : List (Nat × List HV)} {H : Heap} {K : Env → Heap → Prop} {os : List SOper} {d b off i : Nat} {a : Opd} {l : List Ent} {zs : List HV}
    (ha : (M sl bx).opd a = some (.h (.v (.pointer (some ⟨b, off, none⟩))))) (ho : off = i * 3) (hk : H b = some (.obj (cellsE l ++ zs))) (hi : i < l.length)
    (h : rsem S' os (M ((d, .h (.ag (cE (l[i]'hi)))) :: sl) bx) H K) : rsem S' (⟨some d, .load true 3 a, none⟩ :: os) (M sl bx) H K := by
  refine r_calm rfl ?_ h
  subst ho
  simp only [SOp.ev, ha, hk, loadv]
  rw [if_pos (by rw [List.length_append, cellsE_len]; omega), cellsE_get hi]
  rfl
/-- Entries cloned: an object of one's own; or there are none. -/
theorem cloneE_spec (L : Linked code) (tk : Tk) (l : List Ent) (hl : l.length ≤ 1048576) (H : Heap) (K) (h0 : l = [] → K (.sl .full 3 []) H)
    (hk : l ≠ [] → ∀ b c zs X, H b = none → l.length ≤ c → c ≤ maxLen → zs.length = (c - l.length) * 3 → zs.all HV.one = true → X b = some (.obj (cellsE l ++ zs)) → Fr [] H X → K (.v (.slice (some ⟨b, 0, none⟩) l.length c)) X) :
    Spec L.P L.ν 188 [.sl tk 3 (l.map encE)] H K := by
  refine go_spec L code188 rfl ?_
  repeat (refine gk entU ?_)
  refine r_isnil rfl fun t ht => ?_
  cases t
  · repeat (refine gk entU ?_)
    rw [rsem_cons]
    refine .inr ?_
    show appK 3 48 (.sl .full 3 []) (.sl tk 3 (l.map encE)) H _
    simp only [appK, rdm, if_true, List.length_map, flat_encE, List.length_nil, Nat.zero_add, List.flatMap_nil, List.nil_append]
    refine ⟨trivial, fun hm => ?_, fun hm => ⟨by omega, fun b c zs hb h1 h2 h3 h4 => ?_⟩⟩
    · rw [rK_app, M_put]
      repeat (refine gk entU ?_)
      exact resK_some (h0 (List.length_eq_zero_iff.mp hm))
    · dsimp only
      rw [rK_app, M_put]
      repeat (refine gk entU ?_)
      exact resK_some (hk (fun h => hm (by rw [h]; rfl)) b c zs _ hb h1 h2 h3 h4 (Heap.upd_same _ _ _) (Fr.new hb))
  · have hl : l = [] := by simpa using ht rfl
    subst hl
    repeat (refine gk entU ?_)
    exact resK_weak (Weak.nil 3) (h0 rfl)
/-- A copy: an object of one's own; or there are none. -/
theorem copy_spec (L : Linked code) (tk : Tk) (l : List Ent) (hl : l.length ≤ 1048576) (ho : ∀ e ∈ l, okE e) (H : Heap) (K) (h0 : l = [] → K (.sl .full 3 []) H)
    (hk : l ≠ [] → ∀ b c zs X, H b = none → l.length ≤ c → c ≤ maxLen → zs.length = (c - l.length) * 3 → zs.all HV.one = true → X b = some (.obj (cellsE l ++ zs)) → Fr [] H X → K (.v (.slice (some ⟨b, 0, none⟩) l.length c)) X) :
    Spec L.P L.ν 171 [.sl tk 3 (l.map encE)] H K := by
  refine go_spec L code171 rfl ?_
  repeat (refine gk entU ?_)
  (apply r_call; (focus rfl))
  refine cloneE_spec L tk l hl H _ (fun hz => ?_) fun hne b c zs X hb h1 h2 h3 h4 hX hf => ?_
  · subst hz
    repeat (refine gk entU ?_)
    refine c_loop (Spec_SMono L) (fun (_ : Unit) => [(3, .h (.sl .full 3 [])), (9, .h (I 0)), (10, .h (I 0))]) (fun _ => []) (fun _ H' => H' = H) (fun _ => 0) () ?_ rfl ?_
    · (refine leM ?_ ?_ ?_ <;> (repeat refine leS trivial ?_) <;> exact leE)
    rintro _ H' rfl
    repeat (refine gk entU ?_)
    exact resK_some (h0 rfl)
  · repeat (refine gk entU ?_)
    refine c_loop (Spec_SMono L) (fun (i : Nat) => [(3, .h (.v (.slice (some ⟨b, 0, none⟩) l.length c))), (8, .h (.v (.slice (some ⟨b, 0, none⟩) l.length c))), (9, .h (I l.length)), (10, .h (I i))]) (fun _ => [])
      (fun i H' => i ≤ l.length ∧ H' b = some (.obj (cellsE l ++ zs)) ∧ Fr [] H H') (fun i => l.length - i) 0 ?_ ⟨by omega, hX, hf⟩ ?_
    · (refine leM ?_ ?_ ?_ <;> (repeat refine leS trivial ?_) <;> exact leE)
    rintro i H' ⟨hi, hX2, hf2⟩
    repeat (refine gk entU ?_)
    (refine ct entU ?_ ?_ <;> intro h)
    · have hi' : i < l.length := by simpa using h
      repeat (refine gk entU ?_)
      apply r_idxO; (focus rfl); (focus rfl); (focus omega)
      apply r_loadO (i := i) (l := l) (zs := zs) (hi := hi'); (focus rfl); (focus omega); (focus exact hX2)
      unfold cE
      repeat (refine gk entU ?_)
      (apply r_call; (focus rfl))
      refine own_spec L l[i] (Nat.le_trans (ho _ (List.getElem_mem hi')).2 (by decide)) H' _ fun H2 f2 => ?_
      repeat (refine gk entU ?_)
      apply r_idxO; (focus rfl); (focus rfl); (focus omega)
      have hX3 := f2.get (by simp) hX2
      apply r_storeO; (focus rfl); (focus rfl); (focus rfl); (focus rfl); (focus exact hX3); (focus (rw [List.length_append, cellsE_len]; omega))
      intro Y hY hfY
      have e1 : 0 + (i : Int).toNat * 3 = i * 3 := by omega
      rw [e1, encE_cells, cellsE_set hi', List.set_getElem_self] at hY
      repeat (refine gk entU ?_)
      refine k_n (i + 1) (by omega) ⟨by omega, hY, (hf2.trans f2).own hb hfY⟩ ?_
      (refine leM ?_ ?_ ?_ <;> (repeat refine leS trivial ?_) <;> exact leE)
    · repeat (refine gk entU ?_)
      exact resK_some (hk hne b c zs H' hb h1 h2 h3 h4 hX2 hf2)
end Sm

set_option linter.unusedVariables false
set_option linter.unusedSimpArgs false
set_option maxRecDepth 10000
set_option maxHeartbeats 1000000
namespace Sm
open Go
-- BASE entU
section
variable {S' : SpecT} {sl : List (Nat × EV)} {bx : List (Nat × List HV)} {H : Heap} {K : Env → Heap → Prop} {os : List SOper} {d : Nat}
/-- A slice of an object from a place on. -/
theorem r_slcL {sz : Nat} {x lo : Opd} {b off n c a : Nat} {k : Int} (hx : (M sl bx).hv x = some (.v (.slice (some ⟨b, off, none⟩) n c))) (h1 : (M sl bx).hv lo = some (I k)) (hk : k = a) (ha : a ≤ n) (hc : a < c) (hn : n ≤ c)
    (h : rsem S' os (M ((d, .h (.v (.slice (some ⟨b, off + a * sz, none⟩) (n - a) (c - a)))) :: sl) bx) H K) : rsem S' (⟨some d, .slc sz x (some lo) none none, none⟩ :: os) (M sl bx) H K := by
  subst hk
  refine r_slcO (l := (a : Int)) (h := (n : Int)) (m := (c : Int)) hx (by simp only [bnd, h1]) rfl rfl ⟨by omega, by omega, by omega, by omega⟩ ?_
  rw [if_neg (by omega)]
  simpa using h
theorem r_slcLH {sz : Nat} {x lo hi : Opd} {b off n c a e : Nat} {k j : Int} (hx : (M sl bx).hv x = some (.v (.slice (some ⟨b, off, none⟩) n c))) (h1 : (M sl bx).hv lo = some (I k)) (h2 : (M sl bx).hv hi = some (I j)) (hk : k = a) (hj : j = e) (ha : a ≤ e) (hc : a < c) (he : e ≤ c)
    (h : rsem S' os (M ((d, .h (.v (.slice (some ⟨b, off + a * sz, none⟩) (e - a) (c - a)))) :: sl) bx) H K) : rsem S' (⟨some d, .slc sz x (some lo) (some hi) none, none⟩ :: os) (M sl bx) H K := by
  subst hk hj
  refine r_slcO (l := (a : Int)) (h := (e : Int)) (m := (c : Int)) hx (by simp only [bnd, h1]) (by simp only [bnd, h2]) rfl ⟨by omega, by omega, by omega, by omega⟩ ?_
  rw [if_neg (by omega)]
  simpa using h
theorem r_capO {x : Opd} {A : Option Addr} {n c : Nat} (hx : (M sl bx).hv x = some (.v (.slice A n c))) (h : rsem S' os (M ((d, .h (I c)) :: sl) bx) H K) : rsem S' (⟨some d, .nd .cap [x], none⟩ :: os) (M sl bx) H K :=
  r_nd1 (hs := [.v (.slice A n c)]) (by simp [Env.hvs, hx]) (fun R hR => by simp only [ndK]; exact hR) h
/-- An append onto a slice that is an object. -/
theorem r_appO {sz bytes : Nat} {x y : Opd} {b off n c m : Nat} {yv : HV} {cs ys : List HV} (hx : (M sl bx).hv x = some (.v (.slice (some ⟨b, off, none⟩) n c))) (hy : (M sl bx).hv y = some yv) (hr : rdm H sz yv = some (m, ys)) (hb : H b = some (.obj cs))
    (hn : n ≤ c) (hl : off + c * sz ≤ cs.length) (hm : (n + m) * bytes ≤ 140737488355328)
    (hk1 : n + m ≤ c → ∀ X, X b = some (.obj (setL cs (off + n * sz) ys)) → Fr [b] H X → rsem S' os (M ((d, .h (.v (.slice (some ⟨b, off, none⟩) (n + m) c))) :: sl) bx) X K)
    (hk2 : c < n + m → ∀ b' c' zs X, H b' = none → n + m ≤ c' → c' ≤ maxLen → zs.length = (c' - (n + m)) * sz → zs.all HV.one = true → X b' = some (.obj (((cs.drop off).take (n * sz) ++ ys) ++ zs)) → Fr [] H X → rsem S' os (M ((d, .h (.v (.slice (some ⟨b', 0, none⟩) (n + m) c'))) :: sl) bx) X K) :
    rsem S' (⟨some d, .app sz bytes x y, none⟩ :: os) (M sl bx) H K := by
  rw [rsem_cons]
  refine .inr ?_
  simp only [hx, hy, appK, hr]
  refine ⟨cs, hb, hn, hl, fun h => ?_, fun h => ⟨hm, fun b' c' zs h1 h2 h3 h4 h5 => ?_⟩⟩
  · rw [rK_app, M_put]; exact hk1 h _ (Heap.upd_same _ _ _) (Fr.set (by simp))
  · dsimp only; rw [rK_app, M_put]; exact hk2 h b' c' zs _ h1 h2 h3 h4 h5 (Heap.upd_same _ _ _) (Fr.new h1)
/-- An append onto an empty literal, as an object. -/
theorem r_appE {sz bytes : Nat} {x y : Opd} {m : Nat} {yv : HV} {ys : List HV} (hx : (M sl bx).hv x = some (.sl .full sz [])) (hy : (M sl bx).hv y = some yv) (hr : rdm H sz yv = some (m, ys)) (h0 : m ≠ 0) (hm : m * bytes ≤ 140737488355328)
    (hk2 : ∀ b' c' zs X, H b' = none → m ≤ c' → c' ≤ maxLen → zs.length = (c' - m) * sz → zs.all HV.one = true → X b' = some (.obj (ys ++ zs)) → Fr [] H X → rsem S' os (M ((d, .h (.v (.slice (some ⟨b', 0, none⟩) m c'))) :: sl) bx) X K) :
    rsem S' (⟨some d, .app sz bytes x y, none⟩ :: os) (M sl bx) H K := by
  rw [rsem_cons]
  refine .inr ?_
  simp only [hx, hy, appK, hr, List.length_nil, Nat.zero_add, List.flatMap_nil, List.nil_append]
  refine ⟨trivial, fun h => absurd h h0, fun _ => ⟨hm, fun b' c' zs h1 h2 h3 h4 h5 => ?_⟩⟩
  dsimp only; rw [rK_app, M_put]; exact hk2 b' c' zs _ h1 h2 h3 h4 h5 (Heap.upd_same _ _ _) (Fr.new h1)
theorem r_copyO {sz : Nat} {x y : Opd} {b off n c m : Nat} {yv : HV} {cs ys : List HV} (hx : (M sl bx).hvs [x, y] = some [.v (.slice (some ⟨b, off, none⟩) n c), yv]) (hr : rdm H sz yv = some (m, ys)) (hb : H b = some (.obj cs)) (hl : off + n * sz ≤ cs.length)
    (hk : ∀ X, X b = some (.obj (setL cs off (ys.take (min m n * sz)))) → Fr [b] H X → rsem S' os (M ((d, .h (I (min m n : Nat))) :: sl) bx) X K) : rsem S' (⟨some d, .hop (.copy sz) [x, y], none⟩ :: os) (M sl bx) H K := by
  rw [rsem_cons]
  simp only [SOp.step, hx, hopK, hr, hb]
  refine ⟨hl, ?_⟩
  rw [rK_app, M_put]; exact hk _ (Heap.upd_same _ _ _) (Fr.set (by simp))
theorem r_appzO {sz bytes : Nat} {zero : List HV} {x y : Opd} {b off n c : Nat} {k : Int} {cs : List HV} (hx : (M sl bx).hvs [x, y] = some [.v (.slice (some ⟨b, off, none⟩) n c), I k]) (hb : H b = some (.obj cs)) (h0 : 0 < k) (h1 : c < n + k.toNat) (h2 : n ≤ c) (h3 : off + n * sz ≤ cs.length) (h4 : zero.length = sz) (hm : (n + k.toNat) * bytes ≤ 140737488355328)
    (hk2 : ∀ b' c' zs X, H b' = none → n + k.toNat ≤ c' → c' ≤ maxLen → zs.length = (c' - (n + k.toNat)) * sz → zs.all HV.one = true → X b' = some (.obj (((cs.drop off).take (n * sz) ++ (List.replicate k.toNat zero).flatten) ++ zs)) → Fr [] H X → rsem S' os (M ((d, .h (.v (.slice (some ⟨b', 0, none⟩) (n + k.toNat) c'))) :: sl) bx) X K) :
    rsem S' (⟨some d, .hop (.appz sz bytes zero) [x, y], none⟩ :: os) (M sl bx) H K := by
  rw [rsem_cons]
  simp only [SOp.step, hx, hopK, hb]
  refine ⟨h0, h1, h2, h3, h4, hm, fun b' c' zs h1 h2 h3 h4 h5 => ?_⟩
  dsimp only; rw [rK_app, M_put]; exact hk2 b' c' zs _ h1 h2 h3 h4 h5 (Heap.upd_same _ _ _) (Fr.new h1)
theorem r_ovlO {sz : Nat} {x y : Opd} {b off n c : Nat} {tk : Tk} {es cs : List HV} (hx : (M sl bx).hvs [x, y] = some [.sl tk sz es, .v (.slice (some ⟨b, off, none⟩) n c)]) (hb : H b = some (.obj cs)) (h0 : es ≠ []) (h1 : 0 < sz) (hk : rsem S' os (M ((d, .h (B false)) :: sl) bx) H K) : rsem S' (⟨some d, .hop (.ovl sz) [x, y], none⟩ :: os) (M sl bx) H K := by
  rw [rsem_cons]
  simp only [SOp.step, hx, hopK]
  refine ⟨h0, trivial, h1, ⟨cs, hb⟩, ?_⟩
  rw [rK_app, M_put]; exact hk
end
theorem Fr.make2 {bs : List Nat} {H H' : Heap} (h : ∀ a r, a ∉ bs → H a = some r → H' a = some r) : Fr bs H H' := h
theorem rdm_one (H : Heap) (tk : Tk) (x : Ent) : rdm H 3 (.sl tk 3 [encE x]) = some (1, cE x) := by simp [rdm, encE_cells]
theorem rdm_obj {H : Heap} {b off n c : Nat} {cs : List HV} (hb : H b = some (.obj cs)) (hl : off + n * 3 ≤ cs.length) : rdm H 3 (.v (.slice (some ⟨b, off, none⟩) n c)) = some (n, (cs.drop off).take (n * 3)) := by
  simp only [rdm, hb]; rw [if_pos hl]
/-- Entries that are an object of one's own. -/
structure OL (H : Heap) (b n c : Nat) (l : List Ent) : Prop where
  ob : ∃ zs, H b = some (.obj (cellsE l ++ zs)) ∧ zs.length = (c - n) * 3 ∧ zs.all HV.one = true
  len : l.length = n
  nc : n ≤ c
  cm : c ≤ maxLen
attribute [local irreducible] csem rsem dsem seqK blockK normK finK DK RK JK BR G3 resK Spec Tok Fr

theorem insert_spec (L : Linked code) (tk : Tk) (b n c at' : Nat) (l : List Ent) (x : Ent) (H : Heap) (hol : OL H b n c l) (hn : n ≤ 1048576) (ha : at' ≤ n) (K)
    (hk : ∀ b' c' X, OL X b' (n + 1) c' (l.take at' ++ x :: l.drop at') → Fr [b] H X → (b' = b ∨ H b' = none) → K (.v (.slice (some ⟨b', 0, none⟩) (n + 1) c')) X) :
    Spec L.P L.ν 174 [.v (.slice (some ⟨b, 0, none⟩) n c), I at', .sl tk 3 [encE x]] H K := by
  obtain ⟨⟨zs, hb, hz, hz1⟩, hl, hnc, hcm⟩ := hol
  have hcl := cellsE_len l
  have htot : (cellsE l ++ zs).length = c * 3 := by rw [List.length_append, hcl, hz, hl]; omega
  refine go_spec L code174 rfl ?_
  repeat (refine gk entU ?_)
  apply r_slcO; (focus rfl); (focus rfl); (focus rfl); (focus rfl); (focus omega)
  repeat (refine gk entU ?_)
  cases c1 : ((at' : Int) == (n : Int))
  case true =>
    have hat : at' = n := by simp only [beq_iff_eq] at c1; omega
    subst hat
    have e1 : l.take at' ++ x :: l.drop at' = l ++ [x] := by rw [List.take_of_length_le (by omega), List.drop_of_length_le (by omega)]
    rw [e1] at hk
    repeat (refine gk entU ?_)
    apply r_appO; (focus rfl); (focus rfl); (focus exact rdm_one _ _ _); (focus exact hb); (focus exact hnc); (focus omega); (focus omega); (focus skip)
    · intro hc X hX hf
      repeat (refine gk entU ?_)
      refine resK_some (hk b c X ⟨⟨zs.drop 3, ?_, by rw [List.length_drop, hz]; omega, ?_⟩, by simp [hl], hc, hcm⟩ hf (.inl rfl))
      · rw [hX, Nat.zero_add]
        have : zs = zs.take 3 ++ zs.drop 3 := (List.take_append_drop 3 zs).symm
        rw [this, ← List.append_assoc, setL_mid (by rw [hcl, hl]) (by rw [List.length_take, hz]; simp [cE]; omega), cellsE_app]
        simp [cellsE]
      · rw [List.all_eq_true] at hz1 ⊢; exact fun q hq => hz1 q (List.mem_of_mem_drop hq)
    · intro hc b' c' zs' X hb' h1 h2 h3 h4 hX hf
      repeat (refine gk entU ?_)
      refine resK_some (hk b' c' X ⟨⟨zs', ?_, h3, h4⟩, by simp [hl], h1, h2⟩ (hf.mono (by simp)) (.inr hb'))
      rw [hX, List.drop_zero, List.take_append_of_le_length (by rw [hcl, hl]; exact Nat.le_refl _), List.take_of_length_le (by rw [hcl, hl]; exact Nat.le_refl _), cellsE_app]
      simp [cellsE]
  case false =>
  have hat : at' < n := by simp only [beq_eq_false_iff_ne, ne_eq] at c1; omega
  have hA : (cellsE (l.take at')).length = at' * 3 := by rw [cellsE_len, List.length_take]; congr 1; omega
  have hB : (cellsE (l.drop at')).length = (n - at') * 3 := by rw [cellsE_len, List.length_drop, hl]
  have hAB : cellsE l = cellsE (l.take at') ++ cellsE (l.drop at') := by rw [← cellsE_app, List.take_append_drop]
  have hX3 : (cE x).length = 3 := rfl
  have hfin : cellsE (l.take at' ++ x :: l.drop at') = cellsE (l.take at') ++ cE x ++ cellsE (l.drop at') := by rw [cellsE_app, List.append_assoc]; rfl
  have hlen2 : (l.take at' ++ x :: l.drop at').length = n + 1 := by simp [hl]; omega
  have hsrc : ((cellsE l ++ zs).drop (0 + at' * 3)).take ((n - at') * 3) = cellsE (l.drop at') := by
    rw [Nat.zero_add, hAB, List.append_assoc, List.drop_append_of_le_length (by omega), List.drop_of_length_le (by omega), List.nil_append, List.take_append_of_le_length (by omega), List.take_of_length_le (by omega)]
  generalize cellsE (l.take at') = A at hA hAB hfin hsrc
  generalize cellsE (l.drop at') = Bc at hB hAB hfin hsrc
  rw [hAB] at hb htot hsrc
  have htl : A.length + Bc.length + zs.length = c * 3 := by simp only [List.length_append] at htot; exact htot
  repeat (refine gk entU ?_)
  apply r_capO; (focus rfl)
  repeat (refine gk entU ?_)
  (refine ct entU ?_ ?_ <;> intro h2)
  · have hgr : c < n + 1 := by simp only [decide_eq_true_eq] at h2; omega
    repeat (refine gk entU ?_)
    apply r_slcO0; (focus rfl); (focus rfl); (focus omega)
    repeat (refine gk entU ?_)
    apply r_appzO; (focus rfl); (focus exact hb); (focus omega); (focus (first | omega | (simp; done) | (simp; omega))); (focus (first | omega | (simp; done) | (simp; omega))); (focus (first | omega | (simp; done) | (simp; omega))); (focus rfl); (focus (first | omega | (simp; done) | (simp; omega))); (focus skip)
    intro b' c' zs' X hb' g1 g2 g3 g4 hX hf
    have hbb : b ≠ b' := by rintro rfl; rw [hb'] at hb; cases hb
    simp only [Int.toNat_natCast] at g1 g3 hX ⊢
    generalize hk0 : Int.toNat _ = k0 at g1 g3 hX ⊢
    have hk1 : at' + k0 = n + 1 := by omega
    generalize hR : (List.replicate k0 [HV.v (.string ⟨#[]⟩), HV.v (.bool false), HV.v (.slice none 0 0)]).flatten = R at hX
    have hRl : R.length = k0 * 3 := by rw [← hR]; simp
    have hX' : X b' = some (.obj (A ++ R ++ zs')) := by
      rw [hX]
      have e0 : ((A ++ Bc ++ zs).drop 0).take (at' * 3) = A := by
        rw [List.drop_zero, List.append_assoc, List.take_append_of_le_length (by omega), List.take_of_length_le (by omega)]
      rw [e0]
    repeat (refine gk entU ?_)
    apply r_slcL (a := at'); (focus rfl); (focus rfl); (focus rfl); (focus (first | omega | (simp; done) | (simp; omega))); (focus (first | omega | (simp; done) | (simp; omega))); (focus (first | omega | (simp; done) | (simp; omega)))
    repeat (refine gk entU ?_)
    apply r_copyO; (focus rfl); (focus exact rdm_one _ _ _); (focus exact hX'); (focus (simp only [List.length_append, hRl, hA]; omega)); (focus skip)
    intro Y hY fY
    have hY' : Y b' = some (.obj (A ++ cE x ++ (R.drop 3 ++ zs'))) := by
      rw [hY, Nat.zero_add, show min 1 (at' + k0 - at') * 3 = 3 by omega, List.take_of_length_le (Nat.le_refl 3)]
      have e0 : A ++ R ++ zs' = A ++ R.take 3 ++ (R.drop 3 ++ zs') := by rw [← List.append_assoc, List.append_assoc A (R.take 3), List.take_append_drop]
      rw [e0, setL_mid hA (by rw [List.length_take, hX3]; omega)]
    have hYb : Y b = some (.obj (A ++ Bc ++ zs)) := fY.get (by simpa using hbb) (hf.get (by simp) hb)
    repeat (refine gk entU ?_)
    apply r_slcL (a := at' + 1); (focus rfl); (focus rfl); (focus omega); (focus omega); (focus omega); (focus omega)
    repeat (refine gk entU ?_)
    apply r_slcL (a := at'); (focus rfl); (focus rfl); (focus rfl); (focus omega); (focus omega); (focus omega)
    repeat (refine gk entU ?_)
    apply r_copyO; (focus rfl); (focus exact rdm_obj hYb (by simp only [List.length_append]; omega)); (focus exact hY'); (focus (simp only [List.length_append, List.length_drop, hRl, hA, hX3]; omega)); (focus skip)
    intro Z hZ fZ
    have hZ' : Z b' = some (.obj (cellsE (l.take at' ++ x :: l.drop at') ++ zs')) := by
      rw [hZ, hsrc, show min (n - at') (at' + k0 - (at' + 1)) = n - at' by omega, List.take_of_length_le (by omega), hfin, Nat.zero_add]
      have e0 : A ++ cE x ++ (R.drop 3 ++ zs') = (A ++ cE x) ++ R.drop 3 ++ zs' := by simp only [List.append_assoc]
      rw [e0, setL_mid (by rw [List.length_append, hA, hX3]; omega) (by rw [List.length_drop, hRl, hB]; omega)]
    repeat (refine gk entU ?_)
    rw [hk1]
    refine resK_some (hk b' c' Z ⟨⟨zs', hZ', by rw [g3, hk1], g4⟩, hlen2, by omega, g2⟩ ?_ (.inr hb'))
    exact Fr.make2 fun a r han har => by
      have hab : a ≠ b' := by rintro rfl; rw [hb'] at har; cases har
      exact fZ.get (by simpa using hab) (fY.get (by simpa using hab) (hf.get (by simp) har))
  · have hroom : n + 1 ≤ c := by simp only [decide_eq_false_iff_not] at h2; omega
    repeat (refine gk entU ?_)
    apply r_slcO0; (focus rfl); (focus rfl); (focus omega)
    have ek : ((n : Int) + ((1 : Nat) : Int)).toNat = n + 1 := by omega
    repeat (refine gk entU ?_)
    rw [ek]
    apply r_slcL (a := at' + 1); (focus rfl); (focus rfl); (focus omega); (focus omega); (focus omega); (focus omega)
    repeat (refine gk entU ?_)
    apply r_ovlO; (focus rfl); (focus exact hb); (focus simp); (focus decide)
    repeat (refine gk entU ?_)
    apply r_slcL (a := at' + 1); (focus rfl); (focus rfl); (focus omega); (focus omega); (focus omega); (focus omega)
    repeat (refine gk entU ?_)
    apply r_slcL (a := at'); (focus rfl); (focus rfl); (focus rfl); (focus omega); (focus omega); (focus omega)
    repeat (refine gk entU ?_)
    apply r_copyO; (focus rfl); (focus exact rdm_obj hb (by simp only [List.length_append]; omega)); (focus exact hb); (focus (simp only [List.length_append]; omega)); (focus skip)
    intro Y hY fY
    have hz3 : 3 ≤ zs.length := by omega
    have hsp : A ++ Bc ++ zs = (A ++ (Bc ++ zs).take 3) ++ ((Bc ++ zs).drop 3).take Bc.length ++ zs.drop 3 := by
      have e1 : ((Bc ++ zs).drop 3).drop Bc.length = zs.drop 3 := by rw [List.drop_drop, Nat.add_comm 3, ← List.drop_drop, List.drop_left]
      rw [← e1, List.append_assoc, List.append_assoc, List.append_assoc, List.take_append_drop, List.take_append_drop]
    have hY' : Y b = some (.obj (A ++ (Bc ++ zs).take 3 ++ (Bc ++ zs.drop 3))) := by
      rw [hY, List.take_take, show min (min (n + 1 - at') (n + 1 - (at' + 1)) * 3) ((n + 1 - at') * 3) = (n - at') * 3 by omega, hsrc, Nat.zero_add, hsp]
      rw [setL_mid (by simp only [List.length_append, List.length_take, hA]; omega) (by simp only [List.length_take, List.length_drop, List.length_append]; omega)]
      rw [List.append_assoc (A ++ _)]
    repeat (refine gk entU ?_)
    apply r_slcL (a := at'); (focus rfl); (focus rfl); (focus rfl); (focus omega); (focus omega); (focus omega)
    repeat (refine gk entU ?_)
    apply r_copyO; (focus rfl); (focus exact rdm_one _ _ _); (focus exact hY'); (focus (simp only [List.length_append, List.length_take, List.length_drop, hA]; omega)); (focus skip)
    intro Z hZ fZ
    have hZ' : Z b = some (.obj (cellsE (l.take at' ++ x :: l.drop at') ++ zs.drop 3)) := by
      rw [hZ, hfin, Nat.zero_add, show min 1 (n + 1 - at') * 3 = 3 by omega, List.take_of_length_le (l := cE x) (Nat.le_refl 3)]
      rw [setL_mid hA (by rw [List.length_take, List.length_append, hX3]; omega)]
      simp only [List.append_assoc]
    repeat (refine gk entU ?_)
    refine resK_some (hk b c Z ⟨⟨zs.drop 3, hZ', by rw [List.length_drop, hz]; omega, ?_⟩, hlen2, hroom, hcm⟩ ?_ (.inl rfl))
    · rw [List.all_eq_true] at hz1 ⊢; exact fun q hq => hz1 q (List.mem_of_mem_drop hq)
    · exact Fr.make2 fun a r han har => fZ.get han (fY.get han har)
end Sm

set_option linter.unusedVariables false
set_option linter.unusedSimpArgs false
set_option maxRecDepth 10000
set_option maxHeartbeats 1000000
namespace Sm
open Go
-- BASE entU
section
variable {S' : SpecT} {sl : List (Nat × EV)} {bx : List (Nat × List HV)} {H : Heap} {K : Env → Heap → Prop} {os : List SOper} {d : Nat}
theorem r_clrO {sz : Nat} {zero : List HV} {x : Opd} {b off n c : Nat} {cs : List HV} (hx : (M sl bx).hv x = some (.v (.slice (some ⟨b, off, none⟩) n c))) (hb : H b = some (.obj cs)) (hl : off + n * sz ≤ cs.length) (h4 : zero.length = sz)
    (hk : ∀ X, X b = some (.obj (setL cs off (List.replicate n zero).flatten)) → Fr [b] H X → rsem S' os (M sl bx) X K) : rsem S' (⟨none, .hop (.clear sz zero) [x], none⟩ :: os) (M sl bx) H K := by
  rw [rsem_cons]
  have hh : (M sl bx).hvs [x] = some [.v (.slice (some ⟨b, off, none⟩) n c)] := by simp [Env.hvs, hx]
  simp only [SOp.step, hh, hopK, hb]
  exact ⟨hl, h4, hk _ (Heap.upd_same _ _ _) (Fr.set (by simp))⟩
end
attribute [local irreducible] csem rsem dsem seqK blockK normK finK DK RK JK BR G3 resK Spec Tok Fr

theorem delete_spec (L : Linked code) (b n c i : Nat) (l : List Ent) (H : Heap) (hol : OL H b n c l) (hn : n ≤ 1048576) (hi : i < n) (K)
    (hk : ∀ X, OL X b (n - 1) c (l.take i ++ l.drop (i + 1)) → Fr [b] H X → K (.v (.slice (some ⟨b, 0, none⟩) (n - 1) c)) X) :
    Spec L.P L.ν 177 [.v (.slice (some ⟨b, 0, none⟩) n c), I i, I (i + 1 : Nat)] H K := by
  obtain ⟨⟨zs, hb, hz, hz1⟩, hl, hnc, hcm⟩ := hol
  have hcl := cellsE_len l
  have htot : (cellsE l ++ zs).length = c * 3 := by rw [List.length_append, hcl, hz, hl]; omega
  refine go_spec L code177 rfl ?_
  repeat (refine gk entU ?_)
  apply r_slcO; (focus rfl); (focus rfl); (focus rfl); (focus rfl); (focus omega)
  repeat (refine gk entU ?_)
  have c1 : ((i : Int) == ((i + 1 : Nat) : Int)) = false := by simp only [beq_eq_false_iff_ne, ne_eq]; omega
  rw [c1]
  repeat (refine gk entU ?_)
  apply r_slcO0; (focus rfl); (focus rfl); (focus omega)
  repeat (refine gk entU ?_)
  apply r_slcO; (focus rfl); (focus rfl); (focus rfl); (focus rfl); (focus omega)
  repeat (refine gk entU ?_)
  simp only [Int.toNat_natCast]
  have hA : (cellsE (l.take i)).length = i * 3 := by rw [cellsE_len, List.length_take]; congr 1; omega
  have hB : (cellsE (l.drop (i + 1))).length = (n - (i + 1)) * 3 := by rw [cellsE_len, List.length_drop, hl]
  have hX3 : (cE (l[i]'(by omega))).length = 3 := rfl
  have hAB : cellsE l = cellsE (l.take i) ++ cE (l[i]'(by omega)) ++ cellsE (l.drop (i + 1)) := cellsE_split (by omega)
  have hfin : cellsE (l.take i ++ l.drop (i + 1)) = cellsE (l.take i) ++ cellsE (l.drop (i + 1)) := cellsE_app _ _
  have hlen2 : (l.take i ++ l.drop (i + 1)).length = n - 1 := by rw [List.length_append, List.length_take, List.length_drop]; omega
  have hXa : (cE (l[i]'(by omega))).all HV.one = true := rfl
  have hBa : (cellsE (l.drop (i + 1))).all HV.one = true := cellsE_one _
  generalize cellsE (l.take i) = A at hA hAB hfin
  generalize cellsE (l.drop (i + 1)) = Bc at hB hAB hfin hBa
  generalize cE (l[i]'(by omega)) = X3 at hX3 hAB hXa
  rw [hAB] at hb htot
  have htl : A.length + X3.length + Bc.length + zs.length = c * 3 := by simp only [List.length_append] at htot; exact htot
  generalize ho : (if (c : Int) = ((i + 1 : Nat) : Int) then 0 else 0 + (i + 1) * 3) = off
  have hol : off + (n - (i + 1)) * 3 ≤ (A ++ X3 ++ Bc ++ zs).length := by rw [htot, ← ho]; split <;> omega
  have hsrc : ((A ++ X3 ++ Bc ++ zs).drop off).take ((n - (i + 1)) * 3) = Bc := by
    rw [← ho]; split
    · have e0 : n - (i + 1) = 0 := by omega
      have e1 : Bc = [] := List.length_eq_zero_iff.mp (by omega)
      rw [e0, e1]; simp
    · rw [Nat.zero_add, List.append_assoc, List.drop_left' (by rw [List.length_append]; omega), List.take_left' hB]
  apply r_appO; (focus rfl); (focus rfl); (focus exact rdm_obj hb hol); (focus exact hb); (focus omega); (focus omega); (focus omega); (focus skip)
  case hk2 => intro hc; omega
  intro _ Y hY fY
  have e2 : i + (n - (i + 1)) = n - 1 := by omega
  rw [hsrc, Nat.zero_add] at hY
  rw [e2]
  have hRl : ((X3 ++ Bc).drop Bc.length).length = 3 := by rw [List.length_drop, List.length_append]; omega
  have hY' : Y b = some (.obj (A ++ Bc ++ (X3 ++ Bc).drop Bc.length ++ zs)) := by
    have e3 : A ++ X3 ++ Bc ++ zs = A ++ (X3 ++ Bc).take Bc.length ++ ((X3 ++ Bc).drop Bc.length ++ zs) := by
      rw [← List.append_assoc, List.append_assoc A (List.take _ _), List.take_append_drop]; simp only [List.append_assoc]
    rw [hY, e3, setL_mid hA (by rw [List.length_take, List.length_append]; omega)]
    simp only [List.append_assoc]
  generalize (X3 ++ Bc).drop Bc.length = R at hRl hY'
  repeat (refine gk entU ?_)
  apply r_slcLH (a := n - 1) (e := n); (focus rfl); (focus rfl); (focus rfl); (focus rfl); (focus rfl); (focus omega); (focus omega); (focus omega)
  apply r_clrO; (focus rfl); (focus exact hY'); (focus (simp only [List.length_append, hRl]; omega)); (focus rfl)
  intro Z hZ fZ
  repeat (refine gk entU ?_)
  refine resK_some (hk Z ⟨⟨[HV.v (.string ⟨#[]⟩), HV.v (.bool false), HV.v (.slice none 0 0)] ++ zs, ?_, ?_, ?_⟩, hlen2, by omega, hcm⟩ (fY.trans fZ))
  · rw [hZ, hfin, show n - (n - 1) = 1 by omega, setL_mid (by rw [List.length_append]; omega) (by rw [hRl]; rfl)]
    simp only [List.append_assoc]; rfl
  · rw [List.length_append, hz]; show 3 + _ = _; omega
  · rw [List.all_append, hz1]; rfl
end Sm

set_option linter.unusedVariables false
set_option linter.unusedSimpArgs false
set_option maxRecDepth 10000
set_option maxHeartbeats 1000000
namespace Sm
open Go
-- BASE entU
theorem c_joinV {S : SpecT} {e : Env} {H : Heap} {Q : SEx → Env → Heap → Prop} {ι : Type} (hS : SMono S) {a b : SC} (E : ι → List (Nat × EV)) (F : ι → List (Nat × List HV)) (J : ι → Heap → Prop) (h1 : csem S a e H (JK E F J Q)) (h2 : ∀ i H, J i H → ∃ e1 H1, VS (M (E i) (F i)) H e1 H1 ∧ csem S b e1 H1 Q) : csem S (.seq a b) e H Q := by
  rw [csem_seq]
  refine csem_S (fun _ _ _ _ h => h) hS a ?_ h1
  intro ex e' H' hk
  cases ex
  · obtain ⟨j, g1, g2⟩ := hk
    obtain ⟨e1, H1, g3, g4⟩ := h2 j H' g2
    exact ⟨e1, H1, (VS.le g1).trans g3, g4⟩
  · exact hk
  · exact hk
theorem Fr.none {H H' : Heap} {b : Nat} (h : Fr [] H H') (hb : H' b = none) : H b = none := by
  cases e : H b with
  | none => rfl
  | some r => have := h b r (by simp) e; rw [hb] at this; cases this
attribute [local irreducible] csem rsem dsem seqK blockK normK finK DK RK JK BR G3 resK Spec Tok Fr

theorem put1_spec (L : Linked code) (x y : Ent) (c : Nat) (H : Heap) (hx : x.path.length ≤ 1048576) (hy : y.path.length ≤ 1048576) (h1 : H c = some (.obj (cE x))) (K) (hk : ∀ H', Fr [] H H' → K (B (lessP x.path y.path)) H') : Spec L.P L.ν 172 [encE y, ptr c] H K := by
  unfold cE at h1
  refine go_spec L code172 rfl ?_
  repeat (refine gk entU ?_)
  (apply r_call; (focus rfl))
  refine less_spec L x.path y.path hx hy H _ fun H' f => ?_
  repeat (refine gk entU ?_)
  exact resK_some (hk H' f)
theorem insertE_spec (L : Linked code) (tk : Tk) (x : Ent) (H : Heap) (K)
    (hk : ∀ b' c' X, OL X b' 1 c' [x] → Fr [] H X → H b' = none → K (.v (.slice (some ⟨b', 0, none⟩) 1 c')) X) :
    Spec L.P L.ν 174 [.sl .full 3 [], I 0, .sl tk 3 [encE x]] H K := by
  refine go_spec L code174 rfl ?_
  repeat (refine gk entU ?_)
  apply r_appE; (focus rfl); (focus rfl); (focus exact rdm_one _ _ _); (focus decide); (focus decide); (focus skip)
  intro b' c' zs X hb h1 h2 h3 h4 hX hf
  repeat (refine gk entU ?_)
  refine resK_some (hk b' c' X ⟨⟨zs, ?_, h3, h4⟩, rfl, h1, h2⟩ hf hb)
  rw [hX]; simp [cellsE]
/-- Where an entry that is not there yet belongs. -/
def insAt (l : List Ent) (x : Ent) : Nat := if firstIdx (fun y => lessP x.path y.path) l < 0 then l.length else (firstIdx (fun y => lessP x.path y.path) l).toNat
def putL (l : List Ent) (x : Ent) : List Ent := if firstIdx (fun e => e.path == x.path) l < 0 then l.take (insAt l x) ++ x :: l.drop (insAt l x) else l.set (firstIdx (fun e => e.path == x.path) l).toNat x
def putR (l : List Ent) (x : Ent) : List Ent × Int := if chkT l ≠ 0 then ([], chkT l) else if (l.find? (fun e => e.path == x.path)).any (fun e => e.dir != x.dir) then ([], 9) else if chkT (putL l x) ≠ 0 then ([], chkT (putL l x)) else (putL l x, 0)
theorem insAt_le (l : List Ent) (x : Ent) : insAt l x ≤ l.length := by
  unfold insAt
  rcases firstIdx_cases (fun y : Ent => lessP x.path y.path) l with ⟨h1, h2⟩ | ⟨i, hi, h1, h2, _⟩
  · rw [h1]; simp
  · rw [h1]; split <;> omega
theorem putL_mem {l : List Ent} {x e : Ent} (h : e ∈ putL l x) : e ∈ l ∨ e = x := by
  unfold putL at h
  split at h
  · rcases List.mem_append.mp h with h | h
    · exact .inl (List.mem_of_mem_take h)
    · rcases List.mem_cons.mp h with h | h
      · exact .inr h
      · exact .inl (List.mem_of_mem_drop h)
  · exact List.mem_or_eq_of_mem_set h
theorem putL_len (l : List Ent) (x : Ent) : (putL l x).length ≤ l.length + 1 := by
  unfold putL
  have := insAt_le l x
  split
  · simp; omega
  · simp
theorem put_spec (L : Linked code) (tk : Tk) (l : List Ent) (x : Ent) (hl : l.length ≤ 65536) (ho : ∀ e ∈ l, okE e) (hx : okE x) : PureF L 156 [.sl tk 3 (l.map encE), encE x] (.tu [.sl .no 3 ((putR l x).1.map encE), I (putR l x).2]) := by
  intro H K hk
  have hnil : Weak (.tu [.v (.slice none 0 0), I (chkT l)]) (.tu [.sl .no 3 [], I (chkT l)]) := Weak.tu (bs := [.sl .no 3 [], I (chkT l)]) ⟨Weak.nil' 3, Weak.refl _, trivial⟩
  refine go_spec L code156 rfl ?_
  repeat (refine gk entU ?_)
  refine bxk entU ?_
  intro c X hc x1 x2 x3
  have x1' : X c = some (.obj (cE x)) := x1
  repeat (refine gk entU ?_)
  (apply r_call; (focus rfl))
  refine check_spec L tk l (by omega) ho X _ fun H1 f1 => ?_
  repeat (refine gk entU ?_)
  cases c1 : (chkT l != 0)
  case true =>
    rw [putR, if_pos (by simpa [bne] using c1)] at hk
    repeat (refine gk entU ?_)
    exact resK_weak (Weak.tu (bs := [.sl .no 3 [], I (chkT l)]) ⟨Weak.nil' 3, Weak.refl _, trivial⟩) (hk H1 (x2.trans f1))
  rw [putR, if_neg (by simpa [bne] using c1)] at hk
  repeat (refine gk entU ?_)
  (apply r_call; (focus rfl))
  refine copy_spec L tk l (by omega) ho H1 _ (fun hz => ?_) fun hne b cc zs Y hb g1 g2 g3 g4 hY fY => ?_
  · repeat (refine gj entU ?_)
    refine c_joinV (Spec_SMono L) (ι := Nat × Nat) (fun j => [(7, .h (.v (.slice (some ⟨j.1, 0, none⟩) (putL l x).length j.2)))]) (fun _ => [])
      (fun j H' => OL H' j.1 (putL l x).length j.2 (putL l x) ∧ Fr [] H H' ∧ H j.1 = none ∧ (l.find? (fun e => e.path == x.path)).any (fun e => e.dir != x.dir) = false) ?_ ?_
    · have x4 := f1.get (by simp) x1
      repeat (refine gk entU ?_)
      (apply r_call; (focus rfl))
      refine find_spec L tk l x.path (by omega) _ _ fun H2 f2 => ?_
      have x5 := f2.get (by simp) x4
      rw [show firstIdx (fun e : Ent => e.path == x.path) l = -1 from by rw [hz]; rfl]
      repeat (refine gk entU ?_)
      (apply r_call; (focus rfl))
      refine where_spec L 172 [ptr c] (fun y => lessP x.path y.path) tk l (by omega) _ (fun y hy H' K hf hk => put1_spec L x y c H' hx.1 (ho y hy).1 (hf.get (by simp) x5) K hk) _ fun H3 f3 => ?_
      have x6 := f3.get (by simp) x5
      rw [show firstIdx (fun y : Ent => lessP x.path y.path) l = -1 from by rw [hz]; rfl]
      repeat (refine gk entU ?_)
      (apply r_call; (focus rfl))
      refine own_spec L x (Nat.le_trans hx.2 (by decide)) _ _ fun H4 f4 => ?_
      repeat (refine gk entU ?_)
      (apply r_call; (focus rfl))
      have e0 : putL l x = [x] := by rw [hz]; rfl
      rw [show I (l.length : Int) = I 0 by rw [hz]; rfl]
      refine insertE_spec L .full x H4 _ fun b' c' Z hol f5 hb' => ?_
      have fT := (((x2.trans f1).trans f2).trans f3).trans f4
      repeat (refine gk entU ?_)
      refine j_n (b', c') ⟨by rw [e0]; exact hol, fT.trans f5, fT.none hb', by rw [hz]; rfl⟩ ?_
      (refine leM ?_ ?_ ?_ <;> (repeat refine leS (And.intro entU e0) ?_) <;> exact leE)
    · rintro ⟨b', c'⟩ H3 ⟨⟨⟨zs', q1, q2, q3⟩, q4, q5, q6⟩, f3, q7, q8⟩
      have hcl := cellsE_len (putL l x)
      refine ⟨_, _, vs_sl (t := 7) (sz := 3) (es := (putL l x).map encE) rfl q1 ?_ ?_ (by simp) q5 q6 ?_ ?_, ?_⟩
      · rw [List.take_left' hcl, flat_encE]
      · rw [List.length_append, hcl]; omega
      · rw [List.all_eq_true]; intro e he; obtain ⟨y, _, rfl⟩ := List.mem_map.mp he; rfl
      · intro e he; obtain ⟨y, _, rfl⟩ := List.mem_map.mp he; rfl
      rw [if_neg (by rw [q8]; decide)] at hk
      repeat (refine gk entU ?_)
      (apply r_call; (focus rfl))
      refine check_spec L .no (putL l x) (by have := putL_len l x; omega) (fun e he => (putL_mem he).elim (ho e) (fun h => h ▸ hx)) _ _ fun H4 f4 => ?_
      have f5 := (f3.give q7).trans f4
      repeat (refine gk entU ?_)
      cases c2 : (chkT (putL l x) != 0)
      case true =>
        rw [if_pos (by simpa [bne] using c2)] at hk
        repeat (refine gk entU ?_)
        exact resK_weak (Weak.tu (bs := [.sl .no 3 [], I (chkT (putL l x))]) ⟨Weak.nil' 3, Weak.refl _, trivial⟩) (hk H4 f5)
      rw [if_neg (by simpa [bne] using c2)] at hk
      repeat (refine gk entU ?_)
      exact resK_some (hk H4 f5)
  · repeat (refine gj entU ?_)
    refine c_joinV (Spec_SMono L) (ι := Nat × Nat) (fun j => [(7, .h (.v (.slice (some ⟨j.1, 0, none⟩) (putL l x).length j.2)))]) (fun _ => [])
      (fun j H' => OL H' j.1 (putL l x).length j.2 (putL l x) ∧ Fr [] H H' ∧ H j.1 = none ∧ (l.find? (fun e => e.path == x.path)).any (fun e => e.dir != x.dir) = false) ?_ ?_
    · have x4 := fY.get (by simp) (f1.get (by simp) x1)
      have hb0 : H b = none := (x2.trans f1).none hb
      repeat (refine gk entU ?_)
      (apply r_call; (focus rfl))
      refine find_spec L tk l x.path (by omega) _ _ fun H2 f2 => ?_
      have x5 := f2.get (by simp) x4
      have y5 := f2.get (by simp) hY
      rcases firstIdx_cases (fun e : Ent => e.path == x.path) l with ⟨h1, h2⟩ | ⟨i, hi, h1, h2, _⟩
      · have e0 : putL l x = l.take (insAt l x) ++ x :: l.drop (insAt l x) := by rw [putL, h1]; rfl
        rw [h1]
        repeat (refine gk entU ?_)
        (apply r_call; (focus rfl))
        refine where_spec L 172 [ptr c] (fun y => lessP x.path y.path) tk l (by omega) _ (fun y hy H' K hf hk => put1_spec L x y c H' hx.1 (ho y hy).1 (hf.get (by simp) x5) K hk) _ fun H3 f3 => ?_
        have x6 := f3.get (by simp) x5
        have y6 := f3.get (by simp) y5
        rcases firstIdx_cases (fun y : Ent => lessP x.path y.path) l with ⟨k1, k2⟩ | ⟨k, hk', k1, k2, _⟩
        · have e1 : insAt l x = l.length := by rw [insAt, k1]; rfl
          rw [k1]
          repeat (refine gk entU ?_)
          (apply r_call; (focus rfl))
          refine own_spec L x (Nat.le_trans hx.2 (by decide)) _ _ fun H4 f4 => ?_
          have y7 := f4.get (by simp) y6
          repeat (refine gk entU ?_)
          (apply r_call; (focus rfl))
          refine insert_spec L .full b l.length cc l.length l x H4 ⟨⟨zs, y7, g3, g4⟩, rfl, g1, g2⟩ (by omega) (Nat.le_refl _) _ fun b' c' Z hol f5 hb' => ?_
          have fT := ((((x2.trans f1).trans fY).trans f2).trans f3).trans f4
          have e2 : (putL l x).length = l.length + 1 := by rw [e0, e1]; simp
          repeat (refine gk entU ?_)
          refine j_n (b', c') ⟨by rw [e2, e0, e1]; exact hol, fT.own hb0 f5, hb'.elim (fun h => h ▸ hb0) fT.none, by rw [h2]; rfl⟩ ?_
          (refine leM ?_ ?_ ?_ <;> (repeat refine leS (And.intro entU e2) ?_) <;> exact leE)
        · have e1 : insAt l x = k := by rw [insAt, k1, if_neg (by omega)]; rfl
          have e3 : decide ((k : Int) < 0) = false := by simp
          rw [k1]
          repeat (refine gk (And.intro entU e3) ?_)
          (apply r_call; (focus rfl))
          refine own_spec L x (Nat.le_trans hx.2 (by decide)) _ _ fun H4 f4 => ?_
          have y7 := f4.get (by simp) y6
          repeat (refine gk entU ?_)
          (apply r_call; (focus rfl))
          refine insert_spec L .full b l.length cc k l x H4 ⟨⟨zs, y7, g3, g4⟩, rfl, g1, g2⟩ (by omega) (by omega) _ fun b' c' Z hol f5 hb' => ?_
          have fT := ((((x2.trans f1).trans fY).trans f2).trans f3).trans f4
          have e2 : (putL l x).length = l.length + 1 := by rw [e0, e1]; simp; omega
          repeat (refine gk entU ?_)
          refine j_n (b', c') ⟨by rw [e2, e0, e1]; exact hol, fT.own hb0 f5, hb'.elim (fun h => h ▸ hb0) fT.none, by rw [h2]; rfl⟩ ?_
          (refine leM ?_ ?_ ?_ <;> (repeat refine leS (And.intro entU e2) ?_) <;> exact leE)
      · have e3 : decide ((i : Int) ≥ 0) = true := by simp
        rw [h1]
        repeat (refine gk (And.intro entU e3) ?_)
        cases c3 : (l[i].dir == x.dir)
        case false =>
          rw [if_pos (by rw [h2]; simpa [bne] using c3)] at hk
          simp only [if_true, Bool.not_false]
          repeat (refine gk entU ?_)
          exact resK_weak (Weak.tu (bs := [.sl .no 3 [], I 9]) ⟨Weak.nil' 3, Weak.refl _, trivial⟩) (hk H2 (((x2.trans f1).trans fY).trans f2))
        have e0 : putL l x = l.set i x := by rw [putL, h1, if_neg (by omega)]; rfl
        simp only [if_true, Bool.not_true]
        repeat (refine gk (And.intro entU e3) ?_)
        (apply r_call; (focus rfl))
        refine own_spec L x (Nat.le_trans hx.2 (by decide)) _ _ fun H4 f4 => ?_
        have y7 := f4.get (by simp) y5
        repeat (refine gk entU ?_)
        apply r_idxO; (focus rfl); (focus rfl); (focus omega)
        apply r_storeO; (focus rfl); (focus rfl); (focus rfl); (focus rfl); (focus exact y7); (focus (rw [List.length_append, cellsE_len]; omega))
        intro Z hZ fZ
        have e1 : 0 + (i : Int).toNat * 3 = i * 3 := by omega
        rw [e1, encE_cells, cellsE_set hi] at hZ
        have fT := (((x2.trans f1).trans fY).trans f2).trans f4
        have e2 : (putL l x).length = l.length := by rw [e0]; simp
        repeat (refine gk entU ?_)
        refine j_n (b, cc) ⟨⟨⟨zs, by rw [e0]; exact hZ, by rw [e2]; exact g3, g4⟩, rfl, by rw [e2]; exact g1, g2⟩, fT.own hb0 fZ, hb0, by rw [h2]; simpa [bne] using c3⟩ ?_
        (refine leM ?_ ?_ ?_ <;> (repeat refine leS (And.intro entU e2) ?_) <;> exact leE)
    · rintro ⟨b', c'⟩ H3 ⟨⟨⟨zs', q1, q2, q3⟩, q4, q5, q6⟩, f3, q7, q8⟩
      have hcl := cellsE_len (putL l x)
      refine ⟨_, _, vs_sl (t := 7) (sz := 3) (es := (putL l x).map encE) rfl q1 ?_ ?_ (by simp) q5 q6 ?_ ?_, ?_⟩
      · rw [List.take_left' hcl, flat_encE]
      · rw [List.length_append, hcl]; omega
      · rw [List.all_eq_true]; intro e he; obtain ⟨y, _, rfl⟩ := List.mem_map.mp he; rfl
      · intro e he; obtain ⟨y, _, rfl⟩ := List.mem_map.mp he; rfl
      rw [if_neg (by rw [q8]; decide)] at hk
      repeat (refine gk entU ?_)
      (apply r_call; (focus rfl))
      refine check_spec L .no (putL l x) (by have := putL_len l x; omega) (fun e he => (putL_mem he).elim (ho e) (fun h => h ▸ hx)) _ _ fun H4 f4 => ?_
      have f5 := (f3.give q7).trans f4
      repeat (refine gk entU ?_)
      cases c2 : (chkT (putL l x) != 0)
      case true =>
        rw [if_pos (by simpa [bne] using c2)] at hk
        repeat (refine gk entU ?_)
        exact resK_weak (Weak.tu (bs := [.sl .no 3 [], I (chkT (putL l x))]) ⟨Weak.nil' 3, Weak.refl _, trivial⟩) (hk H4 f5)
      rw [if_neg (by simpa [bne] using c2)] at hk
      repeat (refine gk entU ?_)
      exact resK_some (hk H4 f5)
end Sm
