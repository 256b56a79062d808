/-
  A layer of one's own: texts M6,M7,M8,M9.
-/
import Derived.Test.YtpfccegjkhaidaaGreatDoorSmMA
import Derived.Test.YtpfccegjkhaidaaGreatDoorSmSo
set_option linter.unusedVariables false
set_option linter.unusedSimpArgs false
set_option maxRecDepth 10000
set_option maxHeartbeats 1000000
namespace Sm
open Go
-- BASE entU
/-- The three rounds of what is wanted. -/
def w1 (b : Bo) (l m : List Ent) : List Ent := l.foldl (fun m x => if stM b x then mput Ent.path m x else m) m
def w2 (b : Bo) (l m : List Ent) : List Ent := l.foldl (fun m x => if kpM b x == [] then m else mput Ent.path m ⟨kpM b x, false, x.data⟩) m
def wantL (b : Bo) : List Ent := mputs (w2 b b.d (w1 b b.d [])) b.s
theorem w1_take {b : Bo} {l : List Ent} {i : Nat} (h : i < l.length) (m : List Ent) : w1 b (l.take (i + 1)) m = if stM b l[i] then mput Ent.path (w1 b (l.take i) m) l[i] else w1 b (l.take i) m := by
  rw [w1, List.take_succ_eq_append_getElem h, List.foldl_append]; rfl
theorem w2_take {b : Bo} {l : List Ent} {i : Nat} (h : i < l.length) (m : List Ent) : w2 b (l.take (i + 1)) m = if kpM b l[i] == [] then w2 b (l.take i) m else mput Ent.path (w2 b (l.take i) m) ⟨kpM b l[i], false, l[i].data⟩ := by
  rw [w2, List.take_succ_eq_append_getElem h, List.foldl_append]; rfl
attribute [local irreducible] csem rsem dsem seqK blockK normK finK DK RK JK BR G3 resK Spec Tok Fr

theorem copyF_spec (L : Linked code) (tk : Tk) (l : List Ent) (hl : l.length ≤ 1048576) (ho : ∀ e ∈ l, okE e) : PureF L 171 [.sl tk 3 (l.map encE)] (.sl .no 3 (l.map encE)) := by
  intro H K hk
  refine Spec.give (copy_spec L tk l hl ho H _ (fun hz => .inr (.inl ⟨.sl .no 3 [], Weak.drop _ _ _, by subst hz; exact hk H (Fr.refl _ _)⟩)) fun hne b c zs X hb h1 h2 h3 h4 hX hf => .inr (.inr ⟨b, _, .sl .no 3 (l.map encE), hX, FW.slice ?_ ?_ (by simp) h1 h2 ?_ ?_, hk _ (hf.give hb)⟩))
  · rw [List.take_left' (cellsE_len l), flat_encE]
  · rw [List.length_append, cellsE_len]; omega
  · rw [List.all_eq_true]; intro e he; obtain ⟨y, _, rfl⟩ := List.mem_map.mp he; rfl
  · intro e he; obtain ⟨y, _, rfl⟩ := List.mem_map.mp he; rfl
end Sm

set_option linter.unusedVariables false
set_option linter.unusedSimpArgs false
set_option maxRecDepth 10000
set_option maxHeartbeats 1000000
namespace Sm
open Go
-- BASE entU
/-- Paths that a statement lets in. -/
def okW (e : Ent) : Prop := e.path.length ≤ 1001 ∧ e.data.length ≤ 1099511627776
theorem okW.e {e : Ent} (h : okW e) : okE e := ⟨Nat.le_trans h.1 (by decide), h.2⟩
def okP (e : Ent) : Prop := e.path.length ≤ 1000 ∧ e.data.length ≤ 1099511627776
theorem okP.w {e : Ent} (h : okP e) : okW e := ⟨Nat.le_succ_of_le h.1, h.2⟩
theorem okP.e {e : Ent} (h : okP e) : okE e := h.w.e
theorem mput_all {P : Ent → Prop} {m : List Ent} {x : Ent} (hm : ∀ e ∈ m, P e) (hx : P x) : ∀ e ∈ mput Ent.path m x, P e := by
  unfold mput
  split
  · intro e he
    obtain ⟨y, hy, rfl⟩ := List.mem_map.mp he
    split
    · exact hx
    · exact hm y hy
  · intro e he
    rcases List.mem_append.mp he with h | h
    · exact hm e h
    · rw [List.mem_singleton.mp h]; exact hx
theorem mput_len (m : List Ent) (x : Ent) : (mput Ent.path m x).length ≤ m.length + 1 := by
  unfold mput
  split <;> simp
theorem kpM_len {b : Bo} {x : Ent} (hx : okP x) : (kpM b x).length ≤ 1001 := by
  have h : (kepL x.path).length ≤ 1001 := by
    unfold kepL
    split
    · simp
    · have := hx.1; simp; omega
  unfold kpM
  split
  · simp
  · split
    · simp
    · split
      · exact h
      · simp
theorem w1_ok {b : Bo} : ∀ {l m : List Ent}, (∀ e ∈ l, okP e) → (∀ e ∈ m, okW e) → (∀ e ∈ w1 b l m, okW e) ∧ (w1 b l m).length ≤ m.length + l.length
  | [], m, _, hm => ⟨hm, by simp [w1]⟩
  | x :: l, m, hl, hm => by
    show (∀ e ∈ w1 b l (if stM b x then mput Ent.path m x else m), okW e) ∧ (w1 b l (if stM b x then mput Ent.path m x else m)).length ≤ _
    have hx := hl x (by simp)
    cases stM b x
    · obtain ⟨h1, h2⟩ := w1_ok (b := b) (l := l) (m := m) (fun e he => hl e (by simp [he])) hm
      exact ⟨h1, by simp only [Bool.false_eq_true, if_false]; simp at h2 ⊢; omega⟩
    · obtain ⟨h1, h2⟩ := w1_ok (b := b) (l := l) (m := mput Ent.path m x) (fun e he => hl e (by simp [he])) (mput_all hm hx.w)
      have := mput_len m x
      exact ⟨h1, by simp only [if_true]; simp at h2 ⊢; omega⟩
theorem w2_ok {b : Bo} : ∀ {l m : List Ent}, (∀ e ∈ l, okP e) → (∀ e ∈ m, okW e) → (∀ e ∈ w2 b l m, okW e) ∧ (w2 b l m).length ≤ m.length + l.length
  | [], m, _, hm => ⟨hm, by simp [w2]⟩
  | x :: l, m, hl, hm => by
    show (∀ e ∈ w2 b l (if kpM b x == [] then m else mput Ent.path m ⟨kpM b x, false, x.data⟩), okW e) ∧ (w2 b l (if kpM b x == [] then m else mput Ent.path m ⟨kpM b x, false, x.data⟩)).length ≤ _
    have hx := hl x (by simp)
    cases kpM b x == []
    · obtain ⟨h1, h2⟩ := w2_ok (b := b) (l := l) (m := mput Ent.path m ⟨kpM b x, false, x.data⟩) (fun e he => hl e (by simp [he])) (mput_all hm ⟨kpM_len hx, hx.2⟩)
      have := mput_len m ⟨kpM b x, false, x.data⟩
      exact ⟨h1, by simp only [Bool.false_eq_true, if_false]; simp at h2 ⊢; omega⟩
    · obtain ⟨h1, h2⟩ := w2_ok (b := b) (l := l) (m := m) (fun e he => hl e (by simp [he])) hm
      exact ⟨h1, by simp only [if_true]; simp at h2 ⊢; omega⟩
theorem mputs_ok : ∀ {l m : List Ent}, (∀ e ∈ l, okP e) → (∀ e ∈ m, okW e) → (∀ e ∈ mputs m l, okW e) ∧ (mputs m l).length ≤ m.length + l.length
  | [], m, _, hm => ⟨hm, by simp [mputs]⟩
  | x :: l, m, hl, hm => by
    obtain ⟨h1, h2⟩ := mputs_ok (l := l) (m := mput Ent.path m x) (fun e he => hl e (by simp [he])) (mput_all hm (hl x (by simp)).w)
    have := mput_len m x
    exact ⟨h1, by show (mputs (mput Ent.path m x) l).length ≤ _; simp at h2 ⊢; omega⟩
theorem wantL_ok {b : Bo} (hs : ∀ e ∈ b.s, okP e) (hd : ∀ e ∈ b.d, okP e) : (∀ e ∈ wantL b, okW e) ∧ (wantL b).length ≤ 2 * b.d.length + b.s.length := by
  obtain ⟨h1, h2⟩ := w1_ok (b := b) (m := []) hd (by simp)
  obtain ⟨h3, h4⟩ := w2_ok (b := b) hd h1
  obtain ⟨h5, h6⟩ := mputs_ok hs h3
  exact ⟨h5, by unfold wantL; simp at h2; omega⟩
theorem lessP_ntrans (x y z : List UInt8) (h1 : lessP x y = false) (h2 : lessP y z = false) : lessP x z = false := by
  cases h : lessP x z
  · rfl
  · by_cases hxy : x = y
    · subst hxy; rw [h2] at h; exact h.symm
    · have h3 := lessP_tot h1 hxy
      have := lessP_trans h3 h
      rw [h2] at this; exact this.symm
/-- The library's sorts that the program uses. -/
structure Srt {code : Nat → SF} (L : Linked code) : Prop where
  e : ∀ n, L.ν n = some 249 → SortAt L.P n 3
attribute [local irreducible] csem rsem dsem seqK blockK normK finK DK RK JK BR G3 resK Spec Tok Fr

theorem sortE_spec (L : Linked code) (Z : Srt L) (l : List Ent) (hok : ∀ e ∈ l, okW e) (b n c : Nat) (H : Heap) (hol : OL H b n c l) (hn : n ≤ 1048576) (K)
    (hk : ∀ (l' : List Ent) X, l'.Perm l → l'.Pairwise (fun x y => lessP y.path x.path = false) → OL X b n c l' → Fr [b] H X → K (.tu []) X) :
    Spec L.P L.ν 249 [.v (.slice (some ⟨b, 0, none⟩) n c), .fn 250 []] H K := by
  obtain ⟨⟨zs, h1, h2, h3⟩, h4, h5, h6⟩ := hol
  refine sort_spec L cE okW (fun x => rfl) (fun x => rfl) (by decide) Z.e (fun x y => lessP x.path y.path) (fun x _ => lessP_irr _) (fun x y z _ _ _ => lessP_trans) (fun x y z _ _ _ => lessP_ntrans _ _ _)
    (fun x y => if lessP x.path y.path then -1 else 1) (fun x y => by cases lessP x.path y.path <;> rfl) (fun x y hx hy => wcmp_spec L x y hx.e.1 hy.e.1 noR _ fun _ _ => rfl) l hok b n c zs H h1 h4 (by omega) K fun l' X p1 p2 p3 p4 => ?_
  exact hk l' X p1 p2 ⟨⟨zs, p3, h2, h3⟩, p1.length_eq.trans h4, h5, h6⟩ p4
theorem r_appN {S' : SpecT} {sl : List (Nat × EV)} {bx : List (Nat × List HV)} {H : Heap} {K : Env → Heap → Prop} {os : List SOper} {d : Nat} {sz bytes : Nat} {x y : Opd} {m : Nat} {yv : HV} {ys : List HV} (hx : (M sl bx).hv x = some (.v (.slice none 0 0))) (hy : (M sl bx).hv y = some yv) (hr : rdm H sz yv = some (m, ys)) (h0 : m ≠ 0) (hm : m * bytes ≤ 140737488355328)
    (hk2 : ∀ b' c' zs X, H b' = none → m ≤ c' → c' ≤ maxLen → zs.length = (c' - m) * sz → zs.all HV.one = true → X b' = some (.obj (ys ++ zs)) → Fr [] H X → rsem S' os (M ((d, .h (.v (.slice (some ⟨b', 0, none⟩) m c'))) :: sl) bx) X K) :
    rsem S' (⟨some d, .app sz bytes x y, none⟩ :: os) (M sl bx) H K := by
  rw [rsem_cons]
  refine .inr ?_
  simp only [hx, hy, appK, hr]
  refine ⟨fun h => absurd h h0, fun _ => ⟨hm, fun b' c' zs h1 h2 h3 h4 h5 => ?_⟩⟩
  dsimp only; rw [rK_app, M_put]; exact hk2 b' c' zs _ h1 h2 h3 h4 h5 (Heap.upd_same _ _ _) (Fr.new h1)
end Sm

set_option linter.unusedVariables false
set_option linter.unusedSimpArgs false
set_option maxRecDepth 10000
set_option maxHeartbeats 2000000
namespace Sm
open Go
-- BASE entU
theorem nodup_len {α : Type} [BEq α] [LawfulBEq α] : ∀ {a b : List α}, a.Nodup → a ⊆ b → a.length ≤ b.length
  | [], b, _, _ => Nat.zero_le _
  | x :: a, b, hn, hs => by
    have hx : x ∈ b := hs (by simp)
    rw [List.nodup_cons] at hn
    have h1 : a ⊆ b.erase x := fun y hy => (List.mem_erase_of_ne (fun e => hn.1 (by rw [← e]; exact hy))).mpr (hs (by simp [hy]))
    have h2 := nodup_len hn.2 h1
    rw [List.length_erase_of_mem hx] at h2
    have := List.length_pos_of_mem hx
    simp; omega
theorem OL.fr {bs : List Nat} {H H' : Heap} {b n c : Nat} {l : List Ent} (h : OL H b n c l) (hf : Fr bs H H') (hb : b ∉ bs) : OL H' b n c l := by
  obtain ⟨⟨zs, h1, h2⟩, h3, h4, h5⟩ := h
  exact ⟨⟨zs, hf.get hb h1, h2⟩, h3, h4, h5⟩
/-- What holds of the program's memory while what is wanted is made. -/
structure WI (H X : Heap) (ms md c bm : Nat) (b : Bo) (m : List Ent) : Prop where
  fr : Fr [] H X
  bo : BoH X ms md b
  cell : X c = some (.obj [.v (.map (some bm))])
  mp : KM X bm m
  n1 : H bm = none
  n2 : H c = none
  d1 : ms ≠ bm
  d2 : md ≠ bm
  d3 : c ≠ bm
theorem WI.go {H X Y : Heap} {ms md c bm : Nat} {b : Bo} {m : List Ent} (h : WI H X ms md c bm b m) (hf : Fr [] X Y) : WI H Y ms md c bm b m :=
  ⟨h.fr.trans hf, h.bo.fr hf (by simp) (by simp), hf.get (by simp) h.cell, h.mp.fr hf (by simp), h.n1, h.n2, h.d1, h.d2, h.d3⟩
theorem WI.put {H X Y : Heap} {ms md c bm : Nat} {b : Bo} {m m' : List Ent} (h : WI H X ms md c bm b m) (hm : KM Y bm m') (hf : Fr [bm] X Y) : WI H Y ms md c bm b m' :=
  ⟨h.fr.own h.n1 hf, h.bo.fr hf (by simpa using h.d1) (by simpa using h.d2), hf.get (by simpa using h.d3) h.cell, hm, h.n1, h.n2, h.d1, h.d2, h.d3⟩
attribute [local irreducible] csem rsem dsem seqK blockK normK finK DK RK JK BR G3 resK Spec Tok Fr

theorem want_spec (L : Linked code) (Z : Srt L) (t1 t2 : Tk) (s d : List Ent) (del bak : Bool) (hs : s.length ≤ 65536) (hd : d.length ≤ 65536) (os : ∀ e ∈ s, okP e) (od : ∀ e ∈ d, okP e) (H : Heap) (K)
    (hk0 : ∀ e, e ≠ 0 → (chkT s = e ∨ chkT s = 0 ∧ chkT d = e) → ∀ H', Fr [] H H' → K (.tu [.sl .no 3 [], I e]) H')
    (hkF : chkT s = 0 → chkT d = 0 → 64 < (wantL ⟨s, d, del, bak⟩).length → ∀ H', Fr [] H H' → K (.tu [.sl .no 3 [], I 10]) H')
    (hk1 : chkT s = 0 → chkT d = 0 → (wantL ⟨s, d, del, bak⟩).length ≤ 64 → ∀ (l : List Ent) X, l.Perm (wantL ⟨s, d, del, bak⟩) → l.Pairwise (fun x y => lessP y.path x.path = false) → Fr [] H X → K (.tu [.sl .no 3 (l.map encE), I 0]) X) :
    Spec L.P L.ν 235 [.sl t1 3 (s.map encE), .sl t2 3 (d.map encE), .ag [B del, B bak]] H K := by
  refine go_spec L code235 rfl ?_
  repeat (refine gk entU ?_)
  (apply r_call; (focus rfl))
  refine look_spec L t1 t2 s d del bak hs hd (fun e he => (os e he).e) (fun e he => (od e he).e) H _ (fun e he hc H1 f1 => ?_) fun hcs hcd ms md X0 hms hmd hB f0 => ?_
  · have he' : ((e : Int) != 0) = true := by simpa [bne] using he
    repeat (refine gk (And.intro entU he') ?_)
    exact resK_weak (Weak.tu (bs := [.sl .no 3 [], I e]) ⟨Weak.nil' 3, Weak.refl _, trivial⟩) (hk0 e he hc H1 f1)
  generalize hbo : (⟨s, d, del, bak⟩ : Bo) = bo at hB hkF hk1
  have hdd : bo.d = d := by rw [← hbo]
  have hss : bo.s = s := by rw [← hbo]
  have hvv : boV ms md bo = .ag [.v (.map (some ms)), .v (.map (some md)), B del, B bak] := by rw [← hbo]
  rw [hvv]
  repeat (refine gk entU ?_)
  refine r_mop rfl fun bm hbm => ?_
  have h0 : KM (X0.upd bm (some (.mp [] 0))) bm [] := MP.new
  have g0 : Fr [] X0 (X0.upd bm (some (.mp [] 0))) := Fr.new hbm
  generalize X0.upd bm (some (.mp [] 0)) = X1 at h0 g0
  refine r_allocH fun c hc => ?_
  have hc1 : X1.upd c (some (.obj [.v (.map none)])) c = some (.obj [.v (.map none)]) := Heap.upd_same _ _ _
  have g1 : Fr [] X1 (X1.upd c (some (.obj [.v (.map none)]))) := Fr.new hc
  generalize X1.upd c (some (.obj [.v (.map none)])) = X2 at hc1 g1
  apply r_storeO; (focus rfl); (focus rfl); (focus rfl); (focus rfl); (focus exact hc1); (focus decide)
  intro X3 hX3 g3
  have hne1 : ∀ a l, KM X0 a l → a ≠ bm := fun a l h => by
    obtain ⟨⟨st, cc, h1, _⟩, _⟩ := h
    rintro rfl; rw [hbm] at h1; cases h1
  have hne2 : ∀ a l, KM X1 a l → a ≠ c := fun a l h => by
    obtain ⟨⟨st, cc, h1, _⟩, _⟩ := h
    rintro rfl; rw [hc] at h1; cases h1
  have hw0 : WI H X3 ms md c bm bo [] := by
    have hBa := hB.fr g0 (by simp) (by simp)
    have e1 := hne2 _ _ hBa.s
    have e2 := hne2 _ _ hBa.d
    have e3 := hne2 _ _ h0
    refine ⟨(f0.trans g0).own (b := c) ((f0.trans g0).none hc) ((g1.mono (by simp)).trans g3), (hBa.fr g1 (by simp) (by simp)).fr g3 (by simpa using e1) (by simpa using e2), hX3, (h0.fr g1 (by simp)).fr g3 (by simpa using e3), f0.none hbm, (f0.trans g0).none hc, hne1 _ _ hB.s, hne1 _ _ hB.d, fun e => e3 e.symm⟩
  clear h0 g0 hc1 g1 hX3 g3 hne1 hne2
  have hbs : ∀ e ∈ bo.s, okP e := by rw [hss]; exact os
  have hbd : ∀ e ∈ bo.d, okP e := by rw [hdd]; exact od
  have hbp : ∀ e ∈ bo.d, e.path.length ≤ 1048576 := fun e he => (hbd e he).e.1
  repeat (refine gk entU ?_)
  refine c_loop (Spec_SMono L) (fun (i : Nat) => [(0, .h (.sl t1 3 (s.map encE))), (1, .h (.sl t2 3 (d.map encE))), (8, .lp 1 0), (10, .h (ptr c)), (11, .h (.fn 246 [ptr c])), (34, .h (.sl t2 3 (d.map encE))), (35, .h (I d.length)), (36, .h (I i))])
    (fun _ => [(1, [.v (.map (some ms)), .v (.map (some md)), B del, B bak])]) (fun i X => i ≤ d.length ∧ WI H X ms md c bm bo (w1 bo (d.take i) [])) (fun i => d.length - i) 0 ?_ ⟨by omega, by simpa [w1] using hw0⟩ ?_
  · (refine leM ?_ ?_ ?_ <;> (repeat refine leS trivial ?_) <;> exact leE)
  rintro i X ⟨hi, hw⟩
  repeat (refine gk entU ?_)
  (refine ct entU ?_ ?_ <;> intro h)
  · have hi' : i < d.length := by simpa using h
    have hwt := w1_take (b := bo) hi' []
    have hdi := od _ (List.getElem_mem hi')
    repeat (refine gk entU ?_)
    (apply r_call; (focus rfl))
    rw [← hvv]
    refine stays_spec L ms md bo d[i] hdi.e.1 X hw.bo _ ?_
    cases c1 : stM bo d[i]
    case false =>
      rw [c1] at hwt
      repeat (refine gk entU ?_)
      refine k_n (i + 1) (by omega) ⟨by omega, by rw [hwt]; exact hw⟩ ?_
      (refine leM ?_ ?_ ?_ <;> (repeat refine leS (And.intro entU hvv) ?_) <;> exact leE)
    rw [c1, if_pos rfl] at hwt
    repeat (refine gk entU ?_)
    (apply r_callv; (focus rfl); (focus rfl))
    refine wput_spec L d[i] c bm _ X hw.cell hw.mp _ fun Y y1 y2 => ?_
    repeat (refine gk entU ?_)
    refine k_n (i + 1) (by omega) ⟨by omega, by rw [hwt]; exact hw.put y1 y2⟩ ?_
    (refine leM ?_ ?_ ?_ <;> (repeat refine leS (And.intro entU hvv) ?_) <;> exact leE)
  have hi' : i = d.length := by have : ¬ i < d.length := by simpa using h
                                omega
  subst hi'
  rw [List.take_length] at hw
  clear hw0
  repeat (refine gk entU ?_)
  refine c_loop (Spec_SMono L) (fun (i : Nat) => [(0, .h (.sl t1 3 (s.map encE))), (8, .lp 1 0), (10, .h (ptr c)), (11, .h (.fn 246 [ptr c])), (47, .h (.sl t2 3 (d.map encE))), (48, .h (I d.length)), (49, .h (I i))])
    (fun _ => [(1, [.v (.map (some ms)), .v (.map (some md)), B del, B bak])]) (fun i X => i ≤ d.length ∧ WI H X ms md c bm bo (w2 bo (d.take i) (w1 bo d []))) (fun i => d.length - i) 0 ?_ ⟨by omega, by simpa [w2] using hw⟩ ?_
  · (refine leM ?_ ?_ ?_ <;> (repeat refine leS trivial ?_) <;> exact leE)
  clear hw hi h
  rintro i X ⟨hi, hw⟩
  repeat (refine gk entU ?_)
  (refine ct entU ?_ ?_ <;> intro h)
  · have hi' : i < d.length := by simpa using h
    have hwt := w2_take (b := bo) hi' (w1 bo d [])
    have hdi := od _ (List.getElem_mem hi')
    repeat (refine gk entU ?_)
    (apply r_call; (focus rfl))
    rw [← hvv]
    refine kept_spec L ms md bo d[i] (Nat.le_trans hdi.1 (by decide)) hbp X hw.bo _ fun X1 f1 => ?_
    repeat (refine gk entU ?_)
    cases c1 : (kpM bo d[i] == [])
    case true =>
      rw [c1, if_pos rfl] at hwt
      simp only [Bool.not_true]
      repeat (refine gk entU ?_)
      refine k_n (i + 1) (by omega) ⟨by omega, by rw [hwt]; exact hw.go f1⟩ ?_
      (refine leM ?_ ?_ ?_ <;> (repeat refine leS (And.intro entU hvv) ?_) <;> exact leE)
    rw [c1] at hwt
    simp only [Bool.not_false]
    repeat (refine gk entU ?_)
    (apply r_callv; (focus rfl); (focus rfl))
    refine wput_spec L ⟨kpM bo d[i], false, d[i].data⟩ c bm _ X1 (hw.go f1).cell (hw.go f1).mp _ fun Y y1 y2 => ?_
    repeat (refine gk entU ?_)
    refine k_n (i + 1) (by omega) ⟨by omega, by rw [hwt]; exact (hw.go f1).put y1 y2⟩ ?_
    (refine leM ?_ ?_ ?_ <;> (repeat refine leS (And.intro entU hvv) ?_) <;> exact leE)
  have hi' : i = d.length := by have : ¬ i < d.length := by simpa using h
                                omega
  subst hi'
  rw [List.take_length] at hw
  repeat (refine gk entU ?_)
  refine c_loop (Spec_SMono L) (fun (i : Nat) => [(10, .h (ptr c)), (11, .h (.fn 246 [ptr c])), (65, .h (.sl t1 3 (s.map encE))), (66, .h (I s.length)), (67, .h (I i))])
    (fun _ => []) (fun i X => i ≤ s.length ∧ WI H X ms md c bm bo (mputs (w2 bo d (w1 bo d [])) (s.take i))) (fun i => s.length - i) 0 ?_ ⟨by omega, by simpa [mputs] using hw⟩ ?_
  · (refine leM ?_ ?_ ?_ <;> (repeat refine leS trivial ?_) <;> exact leE)
  clear hw hi h
  rintro i X ⟨hi, hw⟩
  repeat (refine gk entU ?_)
  (refine ct entU ?_ ?_ <;> intro h)
  · have hi' : i < s.length := by simpa using h
    have hwt := mputs_take hi' (w2 bo d (w1 bo d []))
    repeat (refine gk entU ?_)
    (apply r_callv; (focus rfl); (focus rfl))
    refine wput_spec L s[i] c bm _ X hw.cell hw.mp _ fun Y y1 y2 => ?_
    repeat (refine gk entU ?_)
    refine k_n (i + 1) (by omega) ⟨by omega, by rw [hwt]; exact hw.put y1 y2⟩ ?_
    (refine leM ?_ ?_ ?_ <;> (repeat refine leS trivial ?_) <;> exact leE)
  have hi' : i = s.length := by have : ¬ i < s.length := by simpa using h
                                omega
  subst hi'
  rw [List.take_length] at hw
  have hwl : mputs (w2 bo d (w1 bo d [])) s = wantL bo := by rw [wantL, hdd, hss]
  rw [hwl] at hw
  obtain ⟨hok, hlen⟩ := wantL_ok hbs hbd
  rw [hdd, hss] at hlen
  generalize wantL bo = W at hw hok hlen hkF hk1
  repeat (refine gk entU ?_)
  apply r_load; (focus rfl); (focus exact hw.cell); (focus rfl)
  refine r_mop rfl (mp_len hw.mp ?_)
  repeat (refine gk entU ?_)
  cases c1 : decide ((W.length : Int) > 64)
  case true =>
    have hgt : 64 < W.length := by simp only [decide_eq_true_eq] at c1; omega
    repeat (refine gk (And.intro entU c1) ?_)
    exact resK_weak (Weak.tu (bs := [.sl .no 3 [], I 10]) ⟨Weak.nil' 3, Weak.refl _, trivial⟩) (hkF hcs hcd hgt X hw.fr)
  have hle : W.length ≤ 64 := by simp only [decide_eq_false_iff_not] at c1; omega
  repeat (refine gk (And.intro entU c1) ?_)
  apply r_load; (focus rfl); (focus exact hw.cell); (focus rfl)
  refine r_mop rfl (mp_rng hw.mp fun it Y hit hY fY => ?_)
  have hbt : it ≠ bm := by
    obtain ⟨⟨st, cc, h1, _⟩, _⟩ := hw.mp
    rintro rfl; rw [hit] at h1; cases h1
  have hHt : H it = none := hw.fr.none hit
  have hFY := hw.fr.trans fY
  repeat (refine gk entU ?_)
  refine c_loop (Spec_SMono L) (fun (q : List Ent × Option (Nat × Nat)) => [(19, .h (match q.2 with | none => .v (.slice none 0 0) | some p => .v (.slice (some ⟨p.1, 0, none⟩) q.1.length p.2))), (79, .h (ptr it))]) (fun _ => [])
    (fun q X => MIt X it bm Ent.path encE W q.1 ∧ Fr [] H X ∧ (∀ e ∈ q.1, e ∈ W) ∧ q.1.length ≤ W.length ∧ match q.2 with | none => q.1 = [] | some p => OL X p.1 q.1.length p.2 q.1 ∧ H p.1 = none ∧ p.1 ≠ it ∧ p.1 ≠ bm) (fun q => W.length - q.1.length) ([], none) ?_ ⟨hY, hFY, by simp, by simp, rfl⟩ ?_
  · (refine leM ?_ ?_ ?_ <;> (repeat refine leS trivial ?_) <;> exact leE)
  clear hw hi h hY fY hFY hit
  rintro ⟨done, o⟩ X ⟨hm, hfr, hin, hdl, ho⟩
  dsimp only at hm hin hdl ⊢
  repeat (refine gk entU ?_)
  refine r_mop rfl (mp_nxt hm hbt (fun hp => ?_) fun a X1 ha had hm1 f1 => ?_)
  · repeat (refine gk entU ?_)
    cases o with
    | none =>
      dsimp only at ho
      subst ho
      have hW : W = [] := List.nil_perm.mp hp
      repeat (refine gk entU ?_)
      (apply r_call; (focus rfl))
      refine sortN_spec L Z.e X _ ?_
      repeat (refine gk entU ?_)
      (apply r_call; (focus rfl))
      refine Spec.args (args' := [.sl .no 3 (([] : List Ent).map encE)]) ⟨Weak.nil' 3, trivial⟩ (copyF_spec L .no [] (by simp) (by simp) X _ fun X2 f2 => ?_)
      repeat (refine gk entU ?_)
      exact resK_some (hk1 hcs hcd hle [] X2 (by rw [hW]) List.Pairwise.nil (hfr.trans f2))
    | some p =>
      obtain ⟨p, pc⟩ := p
      obtain ⟨hol, hpn, hp1, hp2⟩ := ho
      dsimp only at hol hpn hp1 hp2
      repeat (refine gk entU ?_)
      (apply r_call; (focus rfl))
      refine sortE_spec L Z done (fun e he => hok e (hin e he)) p done.length pc X hol (by omega) _ fun l' Y hp3 hs3 hol3 fY3 => ?_
      have hp4 := hp3.trans hp
      have hl4 := hp4.length_eq
      repeat (refine gk entU ?_)
      (apply r_call; (focus rfl))
      obtain ⟨⟨zs, q1, q2, q3⟩, q4, q5, q6⟩ := hol3
      refine Spec.lay (args' := [.sl .no 3 (l'.map encE)]) q1 ⟨FW.slice ?_ ?_ (by simpa using q4) q5 q6 ?_ ?_, trivial⟩ (copyF_spec L .no l' (by omega) (fun e he => (hok e (hp4.mem_iff.mp he)).e) _ _ fun X2 f2 => ?_)
      · rw [List.take_left' (by rw [cellsE_len, q4]), flat_encE]
      · rw [List.length_append, cellsE_len, q4]; omega
      · rw [List.all_eq_true]; intro e he; obtain ⟨y, _, rfl⟩ := List.mem_map.mp he; rfl
      · intro e he; obtain ⟨y, _, rfl⟩ := List.mem_map.mp he; rfl
      repeat (refine gk entU ?_)
      exact resK_some (hk1 hcs hcd hle l' X2 hp4 hs3 (((hfr.own hpn fY3).give hpn).trans f2))
  · have hnew : (done ++ [a]).length ≤ W.length ∧ W.length - (done ++ [a]).length < W.length - done.length := by
      have h1 : (done ++ [a]).Nodup := by
        obtain ⟨⟨st, c2, seen, _, _, _, _, _, js, j1, j2, _, j4⟩, j5⟩ := hm1
        have h2 : ((done ++ [a]).map some).Nodup := by
          rw [j4]
          rw [List.nodup_iff_pairwise_ne, List.pairwise_map]
          rw [List.nodup_iff_pairwise_ne] at j1
          refine List.Pairwise.imp_of_mem (fun {x y} hx hy hne he => hne ?_) j1
          rw [List.getElem?_eq_getElem (j2 x hx), List.getElem?_eq_getElem (j2 y hy)] at he
          simp only [Option.some.injEq] at he
          exact nodup_inj j5 (by simpa using j2 x hx) (by simpa using j2 y hy) (by simpa using congrArg Ent.path he)
        exact (List.nodup_iff_pairwise_ne.mpr ((List.pairwise_map.mp (List.nodup_iff_pairwise_ne.mp h2)).imp fun {x y} hne he => hne (by rw [he])))
      have h2 : (done ++ [a]) ⊆ W := fun e he => by
        rcases List.mem_append.mp he with h | h
        · exact hin e h
        · rw [List.mem_singleton.mp h]; exact ha
      have h3 := nodup_len h1 h2
      simp only [List.length_append, List.length_cons, List.length_nil] at h3 ⊢
      omega
    have hin2 : ∀ e ∈ done ++ [a], e ∈ W := fun e he => by
      rcases List.mem_append.mp he with h | h
      · exact hin e h
      · rw [List.mem_singleton.mp h]; exact ha
    repeat (refine gk entU ?_)
    refine r_mop rfl (mp_ent hm1 ?_)
    repeat (refine gk entU ?_)
    have hfr1 := hfr.own hHt f1
    cases o with
    | none =>
      dsimp only at ho
      subst ho
      repeat (refine gk entU ?_)
      apply r_appN; (focus rfl); (focus rfl); (focus exact rdm_one _ _ a); (focus decide); (focus decide)
      intro b' c' zs X2 hb' g1 g2 g3 g4 hX2 f2
      have hbi : b' ≠ it := by
        obtain ⟨⟨st, c2, seen, _, _, _, _, h5, _⟩, _⟩ := hm1
        rintro rfl; rw [hb'] at h5; cases h5
      have hbm2 : b' ≠ bm := by
        obtain ⟨⟨st, c2, seen, h5, _⟩, _⟩ := hm1
        rintro rfl; rw [hb'] at h5; cases h5
      repeat (refine gk entU ?_)
      refine k_n ([a], some (b', c')) (by simpa using hnew.2) ⟨hm1.fr f2 (by simp) (by simp), hfr1.trans f2, by simpa using hin2, by simpa using hnew.1, ⟨⟨zs, by rw [hX2]; simp [cellsE], g3, g4⟩, rfl, g1, g2⟩, hfr1.none hb', hbi, hbm2⟩ ?_
      (refine leM ?_ ?_ ?_ <;> (repeat refine leS trivial ?_) <;> exact leE)
    | some p =>
      obtain ⟨p, pc⟩ := p
      obtain ⟨hol, hpn, hp1, hp2⟩ := ho
      dsimp only at hol hpn hp1 hp2
      have hol1 := hol.fr f1 (by simpa using hp1)
      obtain ⟨⟨zs, q1, q2, q3⟩, q4, q5, q6⟩ := hol1
      have hcl := cellsE_len done
      repeat (refine gk entU ?_)
      have hl1 : (done ++ [a]).length = done.length + 1 := by simp
      apply r_appO; (focus rfl); (focus rfl); (focus exact rdm_one _ _ a); (focus exact q1); (focus exact q5); (focus (rw [List.length_append, hcl, q2]; omega)); (focus omega); (focus skip)
      · intro hc' X2 hX2 f2
        have hz3 : 3 ≤ zs.length := by omega
        repeat (refine gk entU ?_)
        refine k_n (done ++ [a], some (p, pc)) hnew.2 ⟨hm1.fr f2 (by simpa using fun e => hp2 e.symm) (by simpa using fun e => hp1 e.symm), hfr1.own hpn f2, hin2, hnew.1, ⟨⟨zs.drop 3, ?_, by rw [List.length_drop, q2]; simp; omega, ?_⟩, rfl, by simpa using hc', q6⟩, hpn, hp1, hp2⟩ ?_
        · rw [hX2, Nat.zero_add]
          have : zs = zs.take 3 ++ zs.drop 3 := (List.take_append_drop 3 zs).symm
          rw [this, ← List.append_assoc, setL_mid (by rw [hcl]) (by rw [List.length_take]; simp [cE]; omega), cellsE_app]
          simp [cellsE]
        · rw [List.all_eq_true] at q3 ⊢; exact fun q hq => q3 q (List.mem_of_mem_drop hq)
        · (refine leM ?_ ?_ ?_ <;> (repeat refine leS (And.intro entU hl1) ?_) <;> exact leE)
      · intro hc' b' c' zs' X2 hb' g1 g2 g3 g4 hX2 f2
        have hbi : b' ≠ it := by
          obtain ⟨⟨st, c2, seen, _, _, _, _, h5, _⟩, _⟩ := hm1
          rintro rfl; rw [hb'] at h5; cases h5
        have hbm2 : b' ≠ bm := by
          obtain ⟨⟨st, c2, seen, h5, _⟩, _⟩ := hm1
          rintro rfl; rw [hb'] at h5; cases h5
        repeat (refine gk entU ?_)
        refine k_n (done ++ [a], some (b', c')) hnew.2 ⟨hm1.fr f2 (by simp) (by simp), hfr1.trans f2, hin2, hnew.1, ⟨⟨zs', ?_, by simpa using g3, g4⟩, rfl, by simpa using g1, g2⟩, hfr1.none hb', hbi, hbm2⟩ ?_
        · rw [hX2, List.drop_zero, List.take_append_of_le_length (by rw [hcl]; exact Nat.le_refl _), List.take_of_length_le (by rw [hcl]; exact Nat.le_refl _), cellsE_app]
          simp [cellsE]
        · (refine leM ?_ ?_ ?_ <;> (repeat refine leS (And.intro entU hl1) ?_) <;> exact leE)
end Sm

set_option linter.unusedVariables false
set_option linter.unusedSimpArgs false
set_option maxRecDepth 10000
set_option maxHeartbeats 1000000
namespace Sm
open Go
-- BASE entU
/-- The reference's words. -/
def rblk (l : List Ent) : Nat → List UInt8 → Bool
  | 0, _ => false
  | n + 1, p => ((getR l (parL p)).2 && !(getR l (parL p)).1.dir) || rblk l n (parL p)
def rst (s : List Ent) (del : Bool) (x : Ent) : Bool := if (getR s x.path).2 && x.dir then (getR s x.path).1.dir else if (getR s x.path).2 then !(getR s x.path).1.dir && (x.data == (getR s x.path).1.data) else !rblk s 8 x.path && !del
def rkep (p : List UInt8) : List UInt8 := if p == [] || (p.getLast? == some 126 || chkP (p ++ [126]) != 0) then [] else p ++ [126]
def rkp (s d : List Ent) (del bak : Bool) (x : Ent) : Bool :=
  if x.dir || (rst s del x || (!bak || rkep x.path == [])) then false
  else if (getR s (rkep x.path)).2 || ((getR d (rkep x.path)).2 && (getR d (rkep x.path)).1.dir) then false
  else if parL (rkep x.path) == [] then true
  else ((getR s (parL (rkep x.path))).2 && (getR s (parL (rkep x.path))).1.dir) || ((getR d (parL (rkep x.path))).2 && ((getR d (parL (rkep x.path))).1.dir && rst s del (getR d (parL (rkep x.path))).1))
attribute [local irreducible] csem rsem dsem seqK blockK normK finK DK RK JK BR G3 resK Spec Tok Fr

theorem laid_spec (L : Linked code) (tk : Tk) (l : List Ent) (x : Ent) (hl : l.length ≤ 65536) (ho : ∀ e ∈ l, okE e) (hx : okE x) : PureF L 252 [.sl tk 3 (l.map encE), encE x] (.sl .no 3 ((rputL l x).map encE)) := by
  intro H K hk
  refine go_spec L code252 rfl ?_
  repeat (refine gk entU ?_)
  refine c_loop (Spec_SMono L) (fun (q : Nat × Tk) => [(0, .h (.sl tk 3 (l.map encE))), (3, .lp 0 0), (5, .h (.sl q.2 3 ((rout l x q.1).1.map encE))), (6, .h (B (rout l x q.1).2)), (7, .h (I q.1))]) (fun _ => [(0, [S x.path, B x.dir, .sl .no 1 (x.data.map U)])])
    (fun q H' => q.1 ≤ l.length ∧ Fr [] H H' ∧ Tok H' q.2 (rout l x q.1).1.length 3 ∧ Fresh H q.2) (fun q => l.length - q.1) (0, .full) ?_ ⟨by simp, Fr.refl _ _, Tok.ful _ _ _, by simp [Fresh, tb]⟩ ?_
  · refine leM ?_ ?_ ?_
    · refine leL_eq rfl rfl (leL_eq rfl rfl (leL_w rfl (Weak.nil _) (leL_eq rfl rfl (leL_eq rfl rfl leL_nil))))
    · exact leB_eq rfl rfl leB_nil
    · exact leE
  rintro ⟨i, t⟩ H' ⟨hi, hfr, ht, hn⟩
  simp only at hi hfr ht hn ⊢
  have hb := rout_len l x i hi
  repeat (refine gk entU ?_)
  (refine ct entU ?_ ?_ <;> intro h)
  · have hi' : i < l.length := by simpa using h
    have hs := rout_succ hi' x
    have l1 := st1_len x (rout l x i) l[i]
    have l2 := st2_len x (st1 x (rout l x i) l[i]) l[i]
    repeat (refine gj entU ?_)
    refine c_join (Spec_SMono L) (ι := Tk) (fun t => [(0, .h (.sl tk 3 (l.map encE))), (3, .lp 0 0), (5, .h (.sl t 3 ((st1 x (rout l x i) l[i]).1.map encE))), (6, .h (B (st1 x (rout l x i) l[i]).2)), (7, .h (I i))]) (fun _ => [(0, [S x.path, B x.dir, .sl .no 1 (x.data.map U)])])
      (fun t H' => Fr [] H H' ∧ Tok H' t (st1 x (rout l x i) l[i]).1.length 3 ∧ Fresh H t) ?_ ?_
    · cases c3 : (rout l x i).2
      case true =>
        have e1 : st1 x (rout l x i) l[i] = rout l x i := by rw [st1, c3]; rfl
        repeat (refine gk entU ?_)
        refine j_n t ⟨hfr, by rw [e1]; exact ht, hn⟩ ?_
        (refine leM ?_ ?_ ?_ <;> (repeat refine leS (And.intro entU (And.intro e1 c3)) ?_) <;> exact leE)
      repeat (refine gk entU ?_)
      (apply r_call; (focus rfl))
      refine rless_spec L l[i].path x.path (ho _ (List.getElem_mem hi')).1 hx.1 H' _ fun H3 f3 => ?_
      repeat (refine gk entU ?_)
      cases c4 : lessP l[i].path x.path
      case true =>
        have e1 : st1 x (rout l x i) l[i] = rout l x i := by rw [st1, c3, c4]; rfl
        simp only [Bool.not_true]
        repeat (refine gk entU ?_)
        refine j_n t ⟨hfr.trans f3, by rw [e1]; exact ht.fr' f3 (by simp), hn⟩ ?_
        (refine leM ?_ ?_ ?_ <;> (repeat refine leS (And.intro entU (And.intro e1 c3)) ?_) <;> exact leE)
      have e1 : st1 x (rout l x i) l[i] = ((rout l x i).1 ++ [x], true) := by rw [st1, c3, c4]; rfl
      simp only [Bool.not_false]
      repeat (refine gk entU ?_)
      apply r_app; (focus rfl); (focus rfl); (focus (simpa using ht.fr' f3 (by simp))); (focus (simp; omega))
      intro t' H4 k1 k2
      repeat (refine gk entU ?_)
      refine j_n t' ⟨(hfr.trans f3).apd hn k2, by rw [e1]; simpa using k1, hn.apd (hfr.trans f3) k2⟩ ?_
      (refine leM ?_ ?_ ?_ <;> (repeat refine leS (And.intro entU e1) ?_) <;> exact leE)
    rintro t' H3 ⟨f3, k1, k2⟩
    generalize st1 x (rout l x i) l[i] = s1 at hs l1 l2 k1
    repeat (refine gk entU ?_)
    cases c5 : (l[i].path == x.path)
    case true =>
      have e2 : rout l x (i + 1) = s1 := by rw [hs, st2, c5]; rfl
      simp only [Bool.not_true]
      repeat (refine gk entU ?_)
      refine k_n (i + 1, t') (by simp only; omega) ⟨by simp only; omega, f3, by simp only [e2]; exact k1, k2⟩ ?_
      (refine leM ?_ ?_ ?_ <;> (repeat refine leS (And.intro entU e2) ?_) <;> exact leE)
    have e2 : rout l x (i + 1) = (s1.1 ++ [l[i]], s1.2) := by rw [hs, st2, c5]; rfl
    simp only [Bool.not_false]
    repeat (refine gk entU ?_)
    apply r_app; (focus rfl); (focus rfl); (focus (simpa using k1)); (focus (simp; omega))
    intro t2 H4 m1 m2
    repeat (refine gk entU ?_)
    refine k_n (i + 1, t2) (by simp only; omega) ⟨by simp only; omega, f3.apd k2 m2, by simp only [e2]; simpa using m1, k2.apd f3 m2⟩ ?_
    (refine leM ?_ ?_ ?_ <;> (repeat refine leS (And.intro entU e2) ?_) <;> exact leE)
  · have hi' : i = l.length := by have : ¬ i < l.length := by simpa using h
                                  omega
    subst hi'
    have hlen := rout_len l x l.length (Nat.le_refl _)
    repeat (refine gb entU ?_)
    cases c6 : (rout l x l.length).2
    case true =>
      have e3 : rputL l x = (rout l x l.length).1 := by rw [rputL, c6]; rfl
      simp only [Bool.not_true]
      rw [← e3]
      repeat (refine gk entU ?_)
      exact resK_weak (Weak.drop _ _ _) (hk H' hfr)
    have e3 : rputL l x = (rout l x l.length).1 ++ [x] := by rw [rputL, c6]; rfl
    have e4 : (rputL l x).map encE = (rout l x l.length).1.map encE ++ [encE x] := by rw [e3]; simp
    simp only [Bool.not_false]
    repeat (refine gk entU ?_)
    apply r_app; (focus rfl); (focus rfl); (focus (simpa using ht)); (focus (simp; omega))
    intro t2 H4 m1 m2
    rw [show [HV.ag [S x.path, B x.dir, .sl .no 1 (x.data.map U)]] = [encE x] from rfl, ← e4]
    have f7 := hfr.apd hn m2
    repeat (refine gk entU ?_)
    exact resK_weak (Weak.drop _ _ _) (hk H4 f7)
theorem rblocked_spec (L : Linked code) (tk : Tk) (l : List Ent) (p : List UInt8) (hl : l.length ≤ 1048576) (hp : p.length ≤ 1048576) : Pure L 270 [.sl tk 3 (l.map encE), S p] (B (rblk l 8 p)) := by
  intro H K hk
  refine go_spec L code270 rfl ?_
  repeat (refine gk entU ?_)
  refine c_loop (Spec_SMono L) (fun (q : Nat × List UInt8) => [(0, .h (.sl tk 3 (l.map encE))), (1, .h (S q.2)), (5, .h (I q.1))]) (fun _ => []) (fun q H' => H' = H ∧ q.1 ≤ 8 ∧ q.2.length ≤ 1048576 ∧ rblk l (8 - q.1) q.2 = rblk l 8 p) (fun q => 8 - q.1) (0, p) ?_ ⟨rfl, by simp, hp, rfl⟩ ?_
  · (refine leM ?_ ?_ ?_ <;> (repeat refine leS trivial ?_) <;> exact leE)
  rintro ⟨i, u⟩ H' ⟨rfl, hi, hu, hb⟩
  dsimp only at hi hu hb ⊢
  repeat (refine gk entU ?_)
  (refine ct entU ?_ ?_ <;> intro h)
  · have hi' : i < 8 := by simp only [decide_eq_true_eq] at h; omega
    have e8 : 8 - i = (8 - (i + 1)) + 1 := by omega
    rw [e8, rblk] at hb
    repeat (refine gk entU ?_)
    (apply r_call; (focus rfl))
    refine rparent_spec L u hu _ _ ?_
    repeat (refine gk entU ?_)
    (apply r_call; (focus rfl))
    refine rget_spec L tk l (parL u) hl _ _ ?_
    repeat (refine gk entU ?_)
    cases c2 : (getR l (parL u)).2
    case false =>
      rw [c2] at hb
      simp only [Bool.false_and, Bool.false_or] at hb
      repeat (refine gk entU ?_)
      refine k_n (i + 1, parL u) (by simp only; omega) ⟨rfl, by simp only; omega, Nat.le_trans (parL_len u) hu, hb⟩ ?_
      (refine leM ?_ ?_ ?_ <;> (repeat refine leS trivial ?_) <;> exact leE)
    rw [c2] at hb
    repeat (refine gk entU ?_)
    cases c3 : (getR l (parL u)).1.dir
    case false =>
      rw [c3] at hb
      simp only [Bool.not_false, Bool.true_and, Bool.true_or] at hb ⊢
      rw [← hb] at hk
      repeat (refine gk entU ?_)
      exact resK_some hk
    rw [c3] at hb
    simp only [Bool.not_true, Bool.true_and, Bool.false_or] at hb ⊢
    repeat (refine gk entU ?_)
    refine k_n (i + 1, parL u) (by simp only; omega) ⟨rfl, by simp only; omega, Nat.le_trans (parL_len u) hu, hb⟩ ?_
    (refine leM ?_ ?_ ?_ <;> (repeat refine leS trivial ?_) <;> exact leE)
  · have hi' : i = 8 := by simp only [decide_eq_false_iff_not] at h; omega
    subst hi'
    rw [Nat.sub_self, rblk] at hb
    rw [← hb] at hk
    repeat (refine gk entU ?_)
    exact resK_some hk
theorem rstays_spec (L : Linked code) (tk : Tk) (l : List Ent) (x : Ent) (del bak : Bool) (hl : l.length ≤ 1048576) (hp : x.path.length ≤ 1048576) : Pure L 251 [.sl tk 3 (l.map encE), encE x, .ag [B del, B bak]] (B (rst l del x)) := by
  intro H K hk
  unfold rst at hk
  refine go_spec L code251 rfl ?_
  repeat (refine gk entU ?_)
  (apply r_call; (focus rfl))
  refine rget_spec L tk l x.path hl _ _ ?_
  repeat (refine gk entU ?_)
  cases c1 : (getR l x.path).2
  case false =>
    rw [c1] at hk
    simp only [Bool.false_and, Bool.false_eq_true, if_false] at hk
    repeat (refine gk entU ?_)
    (apply r_call; (focus rfl))
    refine rblocked_spec L tk l x.path hl hp _ _ ?_
    cases c2 : rblk l 8 x.path
    case true =>
      rw [c2] at hk
      repeat (refine gk entU ?_)
      exact resK_some hk
    rw [c2] at hk
    repeat (refine gk entU ?_)
    exact resK_some hk
  rw [c1] at hk
  repeat (refine gk entU ?_)
  cases c2 : x.dir
  case true =>
    rw [c2] at hk
    repeat (refine gk entU ?_)
    exact resK_some hk
  rw [c2] at hk
  repeat (refine gk entU ?_)
  cases c3 : (getR l x.path).1.dir
  case true =>
    rw [c3] at hk
    simp only [Bool.not_true]
    repeat (refine gk entU ?_)
    exact resK_some hk
  rw [c3] at hk
  simp only [Bool.not_false]
  repeat (refine gk entU ?_)
  exact resK_some hk
end Sm
