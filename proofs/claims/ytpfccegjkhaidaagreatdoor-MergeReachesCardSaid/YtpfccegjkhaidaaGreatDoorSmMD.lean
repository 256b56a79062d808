/-
  A layer of one's own: texts M14,M15.
-/
import Derived.Test.YtpfccegjkhaidaaGreatDoorSmMC
set_option linter.unusedVariables false
set_option linter.unusedSimpArgs false
set_option maxRecDepth 10000
set_option maxHeartbeats 1000000
namespace Sm
open Go
-- BASE entU
/-- Turned round at both ends, i of each. -/
def Rv (l cur : List Ent) (i : Nat) : Prop := cur.length = l.length ∧ ∀ k (hk : k < cur.length) (hk' : k < l.length), cur[k] = if k < i ∨ l.length - i ≤ k then l[l.length - 1 - k]'(by omega) else l[k]
theorem Rv.zero (l : List Ent) : Rv l l 0 := ⟨rfl, fun k hk hk' => by rw [if_neg (by omega)]⟩
theorem Rv.done {l cur : List Ent} {i : Nat} (h : Rv l cur i) (hi : l.length ≤ 2 * i + 1) : cur = l.reverse := by
  refine List.ext_getElem (by simp [h.1]) fun k h1 h2 => ?_
  have hk : k < l.length := by rw [← h.1]; exact h1
  rw [h.2 k h1 hk, List.getElem_reverse]
  split
  · rfl
  · congr 1; omega
theorem Rv.step {l cur : List Ent} {i j : Nat} (h : Rv l cur i) (hj : j = l.length - 1 - i) (hij : i < j) (hi : i < cur.length) (hjl : j < cur.length) : Rv l ((cur.set i cur[j]).set j cur[i]) (i + 1) := by
  have hc := h.1
  refine ⟨by simp [hc], fun k hk hk' => ?_⟩
  have hk2 : k < cur.length := by simpa using hk
  rw [List.getElem_set, List.getElem_set]
  by_cases e1 : j = k
  · subst e1
    rw [if_pos rfl, h.2 i hi (by omega), if_neg (by omega), if_pos (by omega)]
    congr 1; omega
  · rw [if_neg e1]
    by_cases e2 : i = k
    · subst e2
      rw [if_pos rfl, h.2 j hjl (by omega), if_neg (by omega), if_pos (by omega)]
      congr 1
    · rw [if_neg e2, h.2 k hk2 hk']
      by_cases e3 : k < i ∨ l.length - i ≤ k
      · rw [if_pos e3, if_pos (by omega)]
      · rw [if_neg e3, if_neg (by omega)]
attribute [local irreducible] csem rsem dsem seqK blockK normK finK DK RK JK BR G3 resK Spec Tok Fr CV

theorem rev0_spec (L : Linked code) (tk : Tk) (H : Heap) (K) (hk : K (.tu []) H) : Spec L.P L.ν 208 [.sl tk 3 []] H K := by
  refine go_spec L code208 rfl ?_
  repeat (refine gk entU ?_)
  refine c_loop (Spec_SMono L) (fun (i : Nat) => [(2, .h (I 0)), (3, .h (I (-1)))]) (fun _ => [])
    (fun i X => i = 0 ∧ X = H) (fun i => 0) 0 ?_ ⟨rfl, rfl⟩ ?_
  · (refine leM ?_ ?_ ?_ <;> (repeat refine leS trivial ?_) <;> exact leE)
  rintro i X ⟨rfl, rfl⟩
  repeat (refine gk entU ?_)
  exact resK_some hk
theorem rev_spec (L : Linked code) (b c : Nat) (l : List Ent) (zs : List HV) (hl : l.length ≤ 1048576) (H : Heap) (hb : H b = some (.obj (cellsE l ++ zs))) (K)
    (hk : ∀ X, X b = some (.obj (cellsE l.reverse ++ zs)) → Fr [b] H X → K (.tu []) X) : Spec L.P L.ν 208 [.v (.slice (some ⟨b, 0, none⟩) l.length c)] H K := by
  refine go_spec L code208 rfl ?_
  repeat (refine gk entU ?_)
  rw [show (l.length : Int) - 1 = (l.length : Int) - 1 - ((0 : Nat) : Int) by omega]
  refine c_loop (Spec_SMono L) (fun (q : Nat × List Ent) => [(0, .h (.v (.slice (some ⟨b, 0, none⟩) l.length c))), (2, .h (I q.1)), (3, .h (I ((l.length : Int) - 1 - q.1)))]) (fun _ => [])
    (fun q X => q.1 ≤ l.length ∧ Rv l q.2 q.1 ∧ X b = some (.obj (cellsE q.2 ++ zs)) ∧ Fr [b] H X) (fun q => l.length - q.1) (0, l) ?_ ⟨by simp, Rv.zero l, hb, Fr.refl _ _⟩ ?_
  · (refine leM ?_ ?_ ?_ <;> (repeat refine leS trivial ?_) <;> exact leE)
  rintro ⟨i, cur⟩ X ⟨hi, hr, hX, hf⟩
  dsimp only at hi hr hX hf ⊢
  have hcl := hr.1
  repeat (refine gk entU ?_)
  (refine ct entU ?_ ?_ <;> intro h)
  · have hij : (i : Int) < (l.length : Int) - 1 - i := by simpa using h
    obtain ⟨j, hj⟩ : ∃ j : Nat, j = l.length - 1 - i := ⟨_, rfl⟩
    have hjz : (l.length : Int) - 1 - i = j := by omega
    rw [hjz]
    have hi' : i < cur.length := by omega
    have hj' : j < cur.length := by omega
    repeat (refine gk entU ?_)
    apply r_idxO; (focus rfl); (focus rfl); (focus omega)
    repeat (refine gk entU ?_)
    apply r_idxO; (focus rfl); (focus rfl); (focus omega)
    repeat (refine gk entU ?_)
    apply r_loadO (i := j) (l := cur) (zs := zs) (hi := hj'); (focus rfl); (focus omega); (focus exact hX)
    repeat (refine gk entU ?_)
    apply r_loadO (i := i) (l := cur) (zs := zs) (hi := hi'); (focus rfl); (focus omega); (focus exact hX)
    repeat (refine gk entU ?_)
    apply r_idxO; (focus rfl); (focus rfl); (focus omega)
    repeat (refine gk entU ?_)
    apply r_storeO; (focus rfl); (focus rfl); (focus rfl); (focus rfl); (focus exact hX); (focus (rw [List.length_append, cellsE_len]; omega))
    intro Y hY hfY
    have hY2 : Y b = some (.obj (cellsE (cur.set i cur[j]) ++ zs)) := by
      rw [hY, show 0 + (i : Int).toNat * 3 = i * 3 by omega]
      show some (Res.obj (setL (cellsE cur ++ zs) (i * 3) (cE cur[j]))) = _
      rw [cellsE_set hi']
    repeat (refine gk entU ?_)
    apply r_idxO; (focus rfl); (focus rfl); (focus omega)
    repeat (refine gk entU ?_)
    apply r_storeO; (focus rfl); (focus rfl); (focus rfl); (focus rfl); (focus exact hY2); (focus (rw [List.length_append, cellsE_len, List.length_set]; omega))
    intro Z hZ hfZ
    have hZ2 : Z b = some (.obj (cellsE ((cur.set i cur[j]).set j cur[i]) ++ zs)) := by
      rw [hZ, show 0 + (j : Int).toNat * 3 = j * 3 by omega]
      show some (Res.obj (setL (cellsE (cur.set i cur[j]) ++ zs) (j * 3) (cE cur[i]))) = _
      rw [cellsE_set (by simpa using hj')]
    have hjj : (j : Int) - 1 = (l.length : Int) - 1 - ((i + 1 : Nat) : Int) := by omega
    repeat (refine gk entU ?_)
    refine k_n (i + 1, (cur.set i cur[j]).set j cur[i]) (by simp only; omega) ⟨by simp only; omega, hr.step hj (by omega) hi' hj', hZ2, (hf.trans hfY).trans hfZ⟩ ?_
    (refine leM ?_ ?_ ?_ <;> (repeat refine leS (And.intro entU hjj) ?_) <;> exact leE)
  · have hij : ¬ (i : Int) < (l.length : Int) - 1 - i := by simpa using h
    rw [hr.done (by omega)] at hX
    repeat (refine gk entU ?_)
    exact resK_some (hk X hX hf)
end Sm

set_option linter.unusedVariables false
set_option linter.unusedSimpArgs false
set_option maxRecDepth 10000
set_option maxHeartbeats 1000000
namespace Sm
open Go
-- BASE entU
/-- What the rounds ask. -/
def q3 (b : Bo) (e : Ent) : Bool := !(kpM b e == []) && !fileM b.d (kpM b e) e.data
def q4 (W : List Ent) (e : Ent) : Bool := !(getR W e.path).2 || !((getR W e.path).1.dir == e.dir)
def q5 (b : Bo) (e : Ent) : Bool := e.dir && !dirM b.d e.path
def q6 (b : Bo) (e : Ent) : Bool := !e.dir && !fileM b.d e.path e.data
def stepsM (b : Bo) (W : List Ent) : List Stp := pushes 0 (q3 b) (kpM b) b.d ++ pushes 1 (q4 W) (fun _ => []) b.d.reverse ++ pushes 2 (q5 b) (fun _ => []) W ++ pushes 3 (q6 b) (fun _ => []) b.s
/-- The program's two trees in a cell. -/
structure PB (H : Heap) (bb ms md : Nat) (b : Bo) : Prop where
  bo : BoH H ms md b
  at' : H bb = some (.obj [.v (.map (some ms)), .v (.map (some md)), B b.del, B b.bak])
theorem PB.fr {H X : Heap} {bb ms md : Nat} {b : Bo} (h : PB H bb ms md b) (hf : Fr [] H X) : PB X bb ms md b := ⟨h.bo.fr hf (by simp) (by simp), hf.get (by simp) h.at'⟩
attribute [local irreducible] csem rsem dsem seqK blockK normK finK DK RK JK BR G3 resK Spec Tok Fr CV

theorem p2_spec (L : Linked code) (e : Ent) : Pure L 257 [encE e] (S []) := by
  intro H K hk
  refine go_spec L code257 rfl ?_
  repeat (refine gk entU ?_)
  exact resK_some hk
theorem p3_spec (L : Linked code) (bb ms md : Nat) (b : Bo) (x : Ent) (hx : x.path.length ≤ 1048575) (hd : ∀ e ∈ b.d, e.path.length ≤ 1048576) (H : Heap) (hB : PB H bb ms md b) (K) (hk : ∀ H', Fr [] H H' → K (B (q3 b x)) H') : Spec L.P L.ν 258 [encE x, ptr bb] H K := by
  unfold q3 at hk
  refine go_spec L code258 rfl ?_
  repeat (refine gk entU ?_)
  apply r_load; (focus rfl); (focus exact hB.at'); (focus rfl)
  repeat (refine gk entU ?_)
  (apply r_call; (focus rfl))
  refine kept_spec L ms md b x hx hd H hB.bo _ fun H1 f1 => ?_
  have hB1 := hB.fr f1
  repeat (refine gk entU ?_)
  cases c1 : (kpM b x == [])
  case true =>
    rw [c1] at hk
    simp only [Bool.not_true]
    repeat (refine gk entU ?_)
    exact resK_some (hk H1 f1)
  rw [c1] at hk
  simp only [Bool.not_false, Bool.true_and] at hk ⊢
  repeat (refine gk entU ?_)
  apply r_load; (focus rfl); (focus exact hB1.at'); (focus rfl)
  repeat (refine gk entU ?_)
  (apply r_call; (focus rfl))
  refine file_spec L md .no b.d (kpM b x) x.data H1 hB1.bo.d _ ?_
  repeat (refine gk entU ?_)
  exact resK_some (hk H1 f1)
theorem p4_spec (L : Linked code) (cw mw : Nat) (W : List Ent) (x : Ent) (H : Heap) (hc : H cw = some (.obj [.v (.map (some mw))])) (hM : KM H mw W) (K) (hk : K (B (q4 W x)) H) : Spec L.P L.ν 259 [encE x, ptr cw] H K := by
  unfold q4 at hk
  refine go_spec L code259 rfl ?_
  repeat (refine gk entU ?_)
  apply r_lkpE hM; (focus rfl)
  repeat (refine gk entU ?_)
  cases c1 : (getR W x.path).2
  case false =>
    rw [c1] at hk
    simp only [Bool.not_false]
    repeat (refine gk entU ?_)
    exact resK_some hk
  rw [c1] at hk
  simp only [Bool.not_true, Bool.false_or] at hk ⊢
  repeat (refine gk entU ?_)
  exact resK_some hk
theorem p5_spec (L : Linked code) (bb ms md : Nat) (b : Bo) (x : Ent) (H : Heap) (hB : PB H bb ms md b) (K) (hk : K (B (q5 b x)) H) : Spec L.P L.ν 260 [encE x, ptr bb] H K := by
  unfold q5 at hk
  refine go_spec L code260 rfl ?_
  repeat (refine gk entU ?_)
  cases c1 : x.dir
  case false =>
    rw [c1] at hk
    repeat (refine gk entU ?_)
    exact resK_some hk
  rw [c1] at hk
  simp only [Bool.true_and] at hk
  repeat (refine gk entU ?_)
  apply r_load; (focus rfl); (focus exact hB.at'); (focus rfl)
  repeat (refine gk entU ?_)
  (apply r_call; (focus rfl))
  refine dir_spec L md b.d x.path H hB.bo.d _ ?_
  repeat (refine gk entU ?_)
  exact resK_some hk
theorem p6_spec (L : Linked code) (bb ms md : Nat) (b : Bo) (x : Ent) (H : Heap) (hB : PB H bb ms md b) (K) (hk : K (B (q6 b x)) H) : Spec L.P L.ν 261 [encE x, ptr bb] H K := by
  unfold q6 at hk
  refine go_spec L code261 rfl ?_
  repeat (refine gk entU ?_)
  cases c1 : x.dir
  case true =>
    rw [c1] at hk
    simp only [Bool.not_true]
    repeat (refine gk entU ?_)
    exact resK_some hk
  rw [c1] at hk
  simp only [Bool.not_false, Bool.true_and] at hk ⊢
  repeat (refine gk entU ?_)
  apply r_load; (focus rfl); (focus exact hB.at'); (focus rfl)
  repeat (refine gk entU ?_)
  (apply r_call; (focus rfl))
  refine file_spec L md .no b.d x.path x.data H hB.bo.d _ ?_
  repeat (refine gk entU ?_)
  exact resK_some hk

theorem oSl_weak (tk : Tk) (o : List Stp) : Weak (oSl tk o) (.sl .no 3 (o.map encP)) := by
  cases o with
  | nil => exact Weak.nil' 3
  | cons x l => exact Weak.drop _ _ _
theorem okP_len {l : List Ent} (h : ∀ e ∈ l, okP e) : ∀ e ∈ l, e.path.length ≤ 1048576 := fun e he => (h e he).e.1
theorem plan_spec (L : Linked code) (Z : Srt L) (t1 t2 : Tk) (s d : List Ent) (del bak : Bool) (hs : s.length ≤ 65536) (hd : d.length ≤ 65536) (os : ∀ e ∈ s, okP e) (od : ∀ e ∈ d, okP e) (H : Heap) (K)
    (hk0 : ∀ e, e ≠ 0 → (chkT s = e ∨ chkT s = 0 ∧ chkT d = e) → ∀ H', Fr [] H H' → K (.tu [.sl .no 3 [], I e]) H')
    (hkF : chkT s = 0 → chkT d = 0 → 64 < (vant s d del bak).length → ∀ H', Fr [] H H' → K (.tu [.sl .no 3 [], I 10]) H')
    (hk1 : chkT s = 0 → chkT d = 0 → (vant s d del bak).length ≤ 64 → ∀ X, Fr [] H X → K (.tu [.sl .no 3 ((stepsM ⟨s, d, del, bak⟩ (vant s d del bak)).map encP), I 0]) X) :
    Spec L.P L.ν 237 [.sl t1 3 (s.map encE), .sl t2 3 (d.map encE), .ag [B del, B bak]] H K := by
  refine go_spec L code237 rfl ?_
  repeat (refine gk entU ?_)
  (apply r_call; (focus rfl))
  refine want_spec L Z t1 t2 s d del bak hs hd os od H _ (fun e he hc H1 f1 => ?_) (fun h1 h2 h3 H1 f1 => ?_) fun hcs hcd hle l X0 hp0 hs0 f0 => ?_
  · have he' : ((e : Int) != 0) = true := by simpa [bne] using he
    repeat (refine gk (And.intro entU he') ?_)
    exact resK_weak (Weak.tu (bs := [.sl .no 3 [], I e]) ⟨Weak.nil' 3, Weak.refl _, trivial⟩) (hk0 e he hc H1 f1)
  · have hA := want_al (del := del) (bak := bak) h1 h2
    repeat (refine gk entU ?_)
    exact resK_weak (Weak.tu (bs := [.sl .no 3 [], I 10]) ⟨Weak.nil' 3, Weak.refl _, trivial⟩) (hkF h1 h2 (by rw [← hA.len]; exact h3) H1 f1)
  have hA := want_al (del := del) (bak := bak) hcs hcd
  have hl := hA.sort hp0 hs0
  subst hl
  rw [hA.len] at hle
  replace hk1 := hk1 hcs hcd hle
  clear hk0 hkF hp0 hs0
  generalize hW : vant s d del bak = W at hle hk1 hA
  repeat (refine gk entU ?_)
  (apply r_call; (focus rfl))
  refine look_spec L t1 t2 s d del bak hs hd (fun e he => (os e he).e) (fun e he => (od e he).e) X0 _ (fun e he hc H1 f1 => ?_) fun _ _ ms md X1 hms hmd hB f1 => ?_
  · exfalso
    rcases hc with hc | ⟨_, hc⟩
    · rw [hcs] at hc; exact he hc.symm
    · rw [hcd] at hc; exact he hc.symm
  generalize hbo : (⟨s, d, del, bak⟩ : Bo) = bo at hB hk1
  have hdd : bo.d = d := by rw [← hbo]
  have hss : bo.s = s := by rw [← hbo]
  have hvv : boV ms md bo = .ag [.v (.map (some ms)), .v (.map (some md)), B del, B bak] := by rw [← hbo]
  have hdel : bo.del = del := by rw [← hbo]
  have hbak : bo.bak = bak := by rw [← hbo]
  rw [hvv]
  repeat (refine gk entU ?_)
  refine r_allocH fun bb hbb => ?_
  have hc1 : X1.upd bb (some (.obj [.v (.map none), .v (.map none), .v (.bool false), .v (.bool false)])) bb = some (.obj [.v (.map none), .v (.map none), .v (.bool false), .v (.bool false)]) := Heap.upd_same _ _ _
  have g1 : Fr [] X1 (X1.upd bb (some (.obj [.v (.map none), .v (.map none), .v (.bool false), .v (.bool false)]))) := Fr.new hbb
  generalize X1.upd bb (some (.obj [.v (.map none), .v (.map none), .v (.bool false), .v (.bool false)])) = X2 at hc1 g1
  apply r_storeO; (focus rfl); (focus rfl); (focus rfl); (focus rfl); (focus exact hc1); (focus decide)
  intro X3 hX3 g3
  have f03 : Fr [] X1 X3 := g1.own hbb g3
  have hP3 : PB X3 bb ms md bo := ⟨hB.fr f03 (by simp) (by simp), by rw [hX3, hdel, hbak]; rfl⟩
  have f3 : Fr [] H X3 := (f0.trans f1).trans f03
  clear hc1 g1 hX3 g3 f03 hB
  repeat (refine gk entU ?_)
  (apply r_call; (focus rfl))
  refine mindex_spec L .no W (by omega) X3 _ fun mw X4 hmw hM4 f4 => ?_
  have hWn : Nd W := List.nodup_iff_pairwise_ne.mpr (List.pairwise_map.mpr (hA.s.imp fun {x y} hxy e => by rw [e, lessP_irr] at hxy; cases hxy))
  rw [mputs_self hWn] at hM4
  have hP4 := hP3.fr f4
  have f34 := f3.trans f4
  clear f3 hP3
  repeat (refine gk entU ?_)
  refine r_allocH fun cw hcw => ?_
  have hc1 : X4.upd cw (some (.obj [.v (.map none)])) cw = some (.obj [.v (.map none)]) := Heap.upd_same _ _ _
  have g1 : Fr [] X4 (X4.upd cw (some (.obj [.v (.map none)]))) := Fr.new hcw
  generalize X4.upd cw (some (.obj [.v (.map none)])) = X5 at hc1 g1
  apply r_storeO; (focus rfl); (focus rfl); (focus rfl); (focus rfl); (focus exact hc1); (focus decide)
  intro X6 hX6 g6
  have f46 : Fr [] X4 X6 := g1.own hcw g6
  have hP6 := hP4.fr f46
  have hM6 := hM4.fr f46 (by simp)
  have hX6' : X6 cw = some (.obj [.v (.map (some mw))]) := hX6
  have f6 := f34.trans f46
  clear hc1 g1 hX6 g6 f46 hP4 hM4 f34
  repeat (refine gk entU ?_)
  refine r_allocH fun c hc => ?_
  have hO : OC X6 (X6.upd c (some (.obj [.v (.slice none 0 0)]))) c .full [] := ⟨Fr.new hc, hc, by simp [Fresh, tb], Heap.upd_same _ _ _, Tok.ful _ _ _, fun _ => rfl, by simp [tb]⟩
  generalize X6.upd c (some (.obj [.v (.slice none 0 0)])) = X7 at hO
  have oD : ∀ e ∈ bo.d, e.path.length ≤ 1048576 := by rw [hdd]; exact okP_len od
  repeat (refine gk entU ?_)
  have hP7 := hP6.fr hO.fr
  apply r_load (v := boV ms md bo); (focus rfl); (focus exact hP7.at'); (focus rfl)
  refine r_mop rfl ?_
  show rsem _ _ _ _ _
  refine r_callv rfl rfl ?_
  refine each_spec L t2 d 0 (.fn 258 [ptr bb]) (.fm 248 (boV ms md bo)) (q3 bo) (kpM bo) c [] .full X6 X7 (by omega) (by simp) hO (fun e he X f K hK => ?_) (fun e he X f K hK => ?_) _ fun X8 tk8 hO8 => ?_
  · unfold CV
    exact p3_spec L bb ms md bo e (Nat.le_trans (od e he).1 (by decide)) oD X (hP6.fr f) K hK
  · unfold CV
    exact kept_spec L ms md bo e (Nat.le_trans (od e he).1 (by decide)) oD X (hP6.bo.fr f (by simp) (by simp)) K hK
  clear hO hP7
  repeat (refine gk entU ?_)
  have hq8 := pushes_len (k := 0) (p := q3 bo) (q := kpM bo) (l := d)
  (apply r_call; (focus rfl))
  refine cloneE_spec L t2 d (by omega) X8 _ (fun hdz => ?_) fun hne b cb zs X9 hb b1 b2 b3 b4 hX9 f9 => ?_
  · subst hdz
    repeat (refine gk entU ?_)
    (apply r_call; (focus rfl))
    refine rev0_spec L .full X8 _ ?_
    repeat (refine gk entU ?_)
    refine r_callv rfl rfl ?_
    refine each_spec L .full ([] : List Ent).reverse 1 (.fn 259 [ptr cw]) (.fn 257 []) (q4 W) (fun _ => []) c _ tk8 X6 X8 (by simp) (by simp only [List.length_append, List.length_nil]; omega) hO8 (fun e he X f K hK => ?_) (fun e he X f K hK => ?_) _ fun X10 tk10 hO10 => ?_
    · simp at he
    · simp at he
    repeat (refine gk entU ?_)
    refine r_callv rfl rfl ?_
    have hP10 := hO10.fr
    have hq10 := pushes_len (k := 1) (p := q4 W) (q := fun _ => []) (l := ([] : List Ent).reverse)
    rw [List.length_reverse] at hq10; simp only [List.length_nil] at hq10
    refine each_spec L .no W 2 (.fn 260 [ptr bb]) (.fn 257 []) (q5 bo) (fun _ => []) c _ tk10 X6 X10 (by omega) (by simp only [List.length_append, List.length_nil]; omega) hO10 (fun e he X f K hK => ?_) (fun e he X f K hK => ?_) _ fun X11 tk11 hO11 => ?_
    · unfold CV
      exact p5_spec L bb ms md bo e X (hP6.fr f) K (hK X (Fr.refl _ _))
    · unfold CV
      exact p2_spec L e X K (hK X (Fr.refl _ _))
    repeat (refine gk entU ?_)
    refine r_callv rfl rfl ?_
    have hq11 := pushes_len (k := 2) (p := q5 bo) (q := fun _ => []) (l := W)
    refine each_spec L t1 s 3 (.fn 261 [ptr bb]) (.fn 257 []) (q6 bo) (fun _ => []) c _ tk11 X6 X11 (by omega) (by simp only [List.length_append, List.length_nil]; omega) hO11 (fun e he X f K hK => ?_) (fun e he X f K hK => ?_) _ fun X12 tk12 hO12 => ?_
    · unfold CV
      exact p6_spec L bb ms md bo e X (hP6.fr f) K (hK X (Fr.refl _ _))
    · unfold CV
      exact p2_spec L e X K (hK X (Fr.refl _ _))
    repeat (refine gk entU ?_)
    apply r_load; (focus rfl); (focus exact hO12.at'); (focus exact load_oSl _ _)
    repeat (refine gk entU ?_)
    have hst : [] ++ pushes 0 (q3 bo) (kpM bo) [] ++ pushes 1 (q4 W) (fun _ => []) ([] : List Ent).reverse ++ pushes 2 (q5 bo) (fun _ => []) W ++ pushes 3 (q6 bo) (fun _ => []) s = stepsM bo W := by rw [stepsM, hdd, hss]; rfl
    rw [hst]
    exact resK_weak (Weak.tu (bs := [.sl .no 3 ((stepsM bo W).map encP), I 0]) ⟨oSl_weak _ _, Weak.refl _, trivial⟩) (hk1 X12 (f6.trans hO12.fr))
  repeat (refine gk entU ?_)
  (apply r_call; (focus rfl))
  refine rev_spec L b cb d zs (by omega) X9 hX9 _ fun Y hY fY => ?_
  have g9 : Fr [] X8 (Y.upd b none) := (f9.own hb fY).give hb
  have hO9 := hO8.go g9
  repeat (refine gk entU ?_)
  refine r_callv rfl rfl ?_
  refine Spec.lay (args' := [.sl .no 3 (d.reverse.map encE), U 1, .fn 259 [ptr cw], .fn 257 [], ptr c]) hY ⟨FW.slice ?_ ?_ (by simp) b1 b2 ?_ ?_, FW.refl _ _ _, FW.refl _ _ _, FW.refl _ _ _, FW.refl _ _ _, trivial⟩ ?_
  · rw [List.take_left' (by rw [cellsE_len, List.length_reverse]), flat_encE]
  · rw [List.length_append, cellsE_len, List.length_reverse]; omega
  · rw [List.all_eq_true]; intro e he; obtain ⟨y, _, rfl⟩ := List.mem_map.mp he; rfl
  · intro e he; obtain ⟨y, _, rfl⟩ := List.mem_map.mp he; rfl
  refine each_spec L .no d.reverse 1 (.fn 259 [ptr cw]) (.fn 257 []) (q4 W) (fun _ => []) c _ tk8 X6 _ (by simp; omega) (by simp only [List.length_append, List.length_nil]; omega) hO9 (fun e he X f K hK => ?_) (fun e he X f K hK => ?_) _ fun X10 tk10 hO10 => ?_
  · unfold CV
    exact p4_spec L cw mw W e X (f.get (by simp) hX6') (hM6.fr f (by simp)) K (hK X (Fr.refl _ _))
  · unfold CV
    exact p2_spec L e X K (hK X (Fr.refl _ _))
  repeat (refine gk entU ?_)
  refine r_callv rfl rfl ?_
  have hP10 := hO10.fr
  have hq10 := pushes_len (k := 1) (p := q4 W) (q := fun _ => []) (l := d.reverse)
  rw [List.length_reverse] at hq10
  refine each_spec L .no W 2 (.fn 260 [ptr bb]) (.fn 257 []) (q5 bo) (fun _ => []) c _ tk10 X6 X10 (by omega) (by simp only [List.length_append, List.length_nil]; omega) hO10 (fun e he X f K hK => ?_) (fun e he X f K hK => ?_) _ fun X11 tk11 hO11 => ?_
  · unfold CV
    exact p5_spec L bb ms md bo e X (hP6.fr f) K (hK X (Fr.refl _ _))
  · unfold CV
    exact p2_spec L e X K (hK X (Fr.refl _ _))
  repeat (refine gk entU ?_)
  refine r_callv rfl rfl ?_
  have hq11 := pushes_len (k := 2) (p := q5 bo) (q := fun _ => []) (l := W)
  refine each_spec L t1 s 3 (.fn 261 [ptr bb]) (.fn 257 []) (q6 bo) (fun _ => []) c _ tk11 X6 X11 (by omega) (by simp only [List.length_append, List.length_nil]; omega) hO11 (fun e he X f K hK => ?_) (fun e he X f K hK => ?_) _ fun X12 tk12 hO12 => ?_
  · unfold CV
    exact p6_spec L bb ms md bo e X (hP6.fr f) K (hK X (Fr.refl _ _))
  · unfold CV
    exact p2_spec L e X K (hK X (Fr.refl _ _))
  repeat (refine gk entU ?_)
  apply r_load; (focus rfl); (focus exact hO12.at'); (focus exact load_oSl _ _)
  repeat (refine gk entU ?_)
  have hst : [] ++ pushes 0 (q3 bo) (kpM bo) d ++ pushes 1 (q4 W) (fun _ => []) d.reverse ++ pushes 2 (q5 bo) (fun _ => []) W ++ pushes 3 (q6 bo) (fun _ => []) s = stepsM bo W := by rw [stepsM, hdd, hss]; rfl
  rw [hst]
  exact resK_weak (Weak.tu (bs := [.sl .no 3 ((stepsM bo W).map encP), I 0]) ⟨oSl_weak _ _, Weak.refl _, trivial⟩) (hk1 X12 (f6.trans hO12.fr))
end Sm
