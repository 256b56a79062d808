/-
  A layer of one's own: texts M26,M27,M28,M29,M30.
-/
import Derived.Test.YtpfccegjkhaidaaGreatDoorSmMI
set_option linter.unusedVariables false
set_option linter.unusedSimpArgs false
set_option maxRecDepth 10000
set_option maxHeartbeats 1000000
namespace Sm
open Go
theorem par_ne_self {p : List UInt8} (h : parL p ≠ []) : parL p ≠ p := by
  intro e
  have := lessP_par h
  rw [e, lessP_irr] at this; cases this
theorem put_ok {T : List Ent} {e : Ent} (h : chkT T = 0) (he : OkE e) (hk : ∀ y ∈ T, y.path = e.path → y.dir = e.dir) (hp : parL e.path ≠ [] → ∃ y ∈ T, y.path = parL e.path ∧ y.dir = true) :
    ((putR T e).2 = 5 ∧ 64 ≤ T.length) ∨ (putR T e = (rputL T e, 0) ∧ chkT (rputL T e) = 0) := by
  obtain ⟨s1, s2⟩ := rput_sd (sd_of h) e
  have h2 : ((getR T e.path).2 && !((getR T e.path).1.dir == e.dir)) = false := by
    cases c : (getR T e.path).2
    · rfl
    · obtain ⟨g1, g2⟩ := getR_in c
      rw [hk _ g1 g2]; simp
  have hr : putR T e = if chkT (rputL T e) ≠ 0 then ([], chkT (rputL T e)) else (rputL T e, 0) := by
    rw [put_eq, rputR, if_neg (by rw [h]; decide), if_neg (by rw [h2]; decide)]
  by_cases hl : (rputL T e).length ≤ 64
  · have hc : chkT (rputL T e) = 0 := by
      refine chk_of s1 hl (fun y hy => ?_) fun y hy hpy => ?_
      · rcases (s2 y).mp hy with rfl | ⟨h1, _⟩
        · exact he
        · exact okE_of h h1
      · have hz : ∃ z ∈ T, z.path = parL y.path ∧ z.dir = true := by
          rcases (s2 y).mp hy with rfl | ⟨h1, _⟩
          · exact hp hpy
          · obtain ⟨z, h3, h4, h5, _⟩ := par_in h h1 hpy
            exact ⟨z, h3, h4, h5⟩
        obtain ⟨z, z1, z2, z3⟩ := hz
        by_cases c : z.path = e.path
        · exact ⟨e, (s2 e).mpr (.inl rfl), by rw [← c, z2], by rw [← hk z z1 c]; exact z3⟩
        · exact ⟨z, (s2 z).mpr (.inr ⟨z1, c⟩), z2, z3⟩
    rw [hr, if_neg (by rw [hc]; decide)]
    exact .inr ⟨rfl, hc⟩
  · have h5 : chkT (rputL T e) = 5 := by rw [chkT, if_pos (by omega)]
    have hb := rputL_len1 T e
    rw [hr, h5, if_pos (by decide)]
    exact .inl ⟨rfl, by omega⟩
theorem rem_ok {T : List Ent} {x : Ent} (h : chkT T = 0) (hx : x ∈ T) (hc : ∀ y ∈ T, parL y.path ≠ x.path) :
    remR T x.path = (T.filter (fun e => !(e.path == x.path)), 0) ∧ chkT (T.filter (fun e => !(e.path == x.path))) = 0 := by
  have hg := getR_nd (chk_nodup h) hx
  have hch : chl T x.path = [] := by
    rw [chl, List.map_eq_nil_iff, List.filter_eq_nil_iff]
    intro y hy
    simpa using hc y hy
  refine ⟨?_, ?_⟩
  · rw [rem_eq, rremR, if_neg (by rw [h]; decide), hg, hch, if_neg (by simp)]
    simp
  · have hl : T.length ≤ 64 := by
      apply Decidable.byContradiction; intro hn
      rw [chkT, if_pos (by omega)] at h; cases h
    refine chk_of ((sd_of h).filter _) (Nat.le_trans (List.length_filter_le _ _) hl) (fun y hy => okE_of h (List.mem_filter.mp hy).1) fun y hy hp => ?_
    obtain ⟨z, h3, h4, h5, _⟩ := par_in h (List.mem_filter.mp hy).1 hp
    refine ⟨z, List.mem_filter.mpr ⟨h3, ?_⟩, h4, h5⟩
    have := hc y (List.mem_filter.mp hy).1
    rw [h4]; simpa using this
end Sm

set_option linter.unusedVariables false
set_option linter.unusedSimpArgs false
set_option maxRecDepth 10000
set_option maxHeartbeats 1000000
namespace Sm
open Go
/-- A tree on the way: each path has what was there, or what is wanted; and nothing only where it may. -/
structure Way (d W T : List Ent) : Prop where
  c : chkT T = 0
  m : ∀ e ∈ T, e ∈ d ∨ e ∈ W
  k : ∀ a ∈ d, ∀ b ∈ W, a.path = b.path → a.dir = b.dir → (getR T a.path).2 = true
/-- All goes well. -/
def Runs (s d W : List Ent) (Q : List Ent → Prop) : List Ent → List Stp → Prop
  | T, [] => Q T
  | T, x :: l => ((applyM T x s).2 = 5 ∧ 64 ≤ T.length) ∨ ((applyM T x s).2 = 0 ∧ Way d W (applyM T x s).1 ∧ Runs s d W Q (applyM T x s).1 l)
theorem Runs.app {s d W : List Ent} {Q : List Ent → Prop} : ∀ {l1 l2 : List Stp} {T : List Ent}, Runs s d W (fun T' => Runs s d W Q T' l2) T l1 → Runs s d W Q T (l1 ++ l2)
  | [], l2, T, h => h
  | x :: l1, l2, T, h => by
    rcases h with h | ⟨h1, h2, h3⟩
    · exact .inl h
    · exact .inr ⟨h1, h2, Runs.app h3⟩
theorem runs_pushes {s d W : List Ent} {Q : List Ent → Prop} {k : UInt8} {p : Ent → Bool} {q : Ent → List UInt8} (I : List Ent → List Ent → Prop) :
    ∀ (l a : List Ent) (T : List Ent), I a T → (∀ a x b T, a ++ x :: b = a ++ x :: b → I a T → p x = false → I (a ++ [x]) T) →
    (∀ a' x b, a ++ l = a' ++ x :: b → ∀ T, I a' T → p x = true → ((applyM T ⟨k, x.path, q x⟩ s).2 = 5 ∧ 64 ≤ T.length) ∨ ((applyM T ⟨k, x.path, q x⟩ s).2 = 0 ∧ Way d W (applyM T ⟨k, x.path, q x⟩ s).1 ∧ I (a' ++ [x]) (applyM T ⟨k, x.path, q x⟩ s).1)) →
    (∀ T, I (a ++ l) T → Q T) → Runs s d W Q T (pushes k p q l)
  | [], a, T, hI, _, _, hQ => hQ T (by simpa using hI)
  | x :: l, a, T, hI, h1, h2, hQ => by
    have hne : a ++ x :: l = (a ++ [x]) ++ l := by simp
    cases c : p x
    · have : pushes k p q (x :: l) = pushes k p q l := by unfold pushes; rw [List.filter_cons_of_neg (by simp [c])]
      rw [this]
      exact runs_pushes I l (a ++ [x]) T (h1 a x l T rfl hI c) h1 (fun a' y b e => h2 a' y b (by rw [hne]; exact e)) (fun T hT => hQ T (by rw [hne]; exact hT))
    · have : pushes k p q (x :: l) = ⟨k, x.path, q x⟩ :: pushes k p q l := by unfold pushes; rw [List.filter_cons_of_pos c]; rfl
      rw [this]
      rcases h2 a x l rfl T hI c with h | ⟨g1, g2, g3⟩
      · exact .inl h
      · exact .inr ⟨g1, g2, runs_pushes I l (a ++ [x]) _ g3 h1 (fun a' y b e => h2 a' y b (by rw [hne]; exact e)) (fun T hT => hQ T (by rw [hne]; exact hT))⟩
section
variable {s d : List Ent} {del bak : Bool}
/-- Where the files are kept. -/
def I1 (s d : List Ent) (del bak : Bool) (a T : List Ent) : Prop := Way d (vant s d del bak) T ∧ ∀ e, e ∈ T ↔ (∃ x ∈ a, r3 s d del bak x = true ∧ e = kE x) ∨ (e ∈ d ∧ ∀ x ∈ a, r3 s d del bak x = true → rkep x.path ≠ e.path)
theorem kE_in (hs : chkT s = 0) (hd : chkT d = 0) {x : Ent} (hx : x ∈ d) (hk : rkp s d del bak x = true) : kE x ∈ vant s d del bak := by
  obtain ⟨_, hW⟩ := vant_iff (del := del) (bak := bak) hs hd
  refine (hW _).mpr (.inr ⟨.inl ⟨x, hx, hk, rfl⟩, fun y hy e => ?_⟩)
  have : (getR s (rkep x.path)).2 = false := by
    cases c : (getR s (rkep x.path)).2
    · rfl
    · rw [rkp, c] at hk; simp at hk
  exact getR_no this y hy e
theorem r3_rkp {x : Ent} (h : r3 s d del bak x = true) : rkp s d del bak x = true := by
  unfold r3 at h; rw [Bool.and_eq_true] at h; exact h.1
theorem rkep_not (p : List UInt8) : rkep (p ++ [126]) = [] := by
  unfold rkep
  rw [if_pos (by simp)]
theorem phase1 (hs : chkT s = 0) (hd : chkT d = 0) (hl : (vant s d del bak).length ≤ 64) {Q : List Ent → Prop} (hQ : ∀ T, I1 s d del bak d T → Q T) : Runs s d (vant s d del bak) Q d (pushes 0 (r3 s d del bak) (fun e => rkep e.path) d) := by
  have nd := chk_nodup hd
  refine runs_pushes (I1 s d del bak) d [] d ⟨⟨hd, fun e he => .inl he, fun a ha b hb _ _ => by rw [getR_nd nd ha]⟩, fun e => by simp⟩ (fun a x b T _ ⟨w, h⟩ c => ⟨w, fun e => ?_⟩) (fun a x b hab T ⟨w, h⟩ c => ?_) (fun T hT => hQ T (by simpa using hT))
  · rw [h]
    constructor
    · rintro (⟨y, hy, h1, h2⟩ | ⟨h1, h2⟩)
      · exact .inl ⟨y, by simp [hy], h1, h2⟩
      · refine .inr ⟨h1, fun y hy hr => ?_⟩
        rcases List.mem_append.mp hy with hy | hy
        · exact h2 y hy hr
        · rw [List.mem_singleton.mp hy, c] at hr; cases hr
    · rintro (⟨y, hy, h1, h2⟩ | ⟨h1, h2⟩)
      · rcases List.mem_append.mp hy with hy | hy
        · exact .inl ⟨y, hy, h1, h2⟩
        · rw [List.mem_singleton.mp hy, c] at h1; cases h1
      · exact .inr ⟨h1, fun y hy hr => h2 y (by simp [hy]) hr⟩
  have hxd : x ∈ d := by
    have : d = a ++ x :: b := by simpa using hab
    rw [this]; simp
  have had : ∀ y ∈ a, y ∈ d := fun y hy => by
    have : d = a ++ x :: b := by simpa using hab
    rw [this]; simp [hy]
  have hk := r3_rkp c
  have hdir := rkp_nd hk
  have hkE := kE_in hs hd hxd hk
  obtain ⟨ok, hpar, hpth⟩ := kept_facts hd hxd hk
  have hxT : x ∈ T := (h x).mpr (.inr ⟨hxd, fun y hy hr e => by
    have h1 := (rkep_ne (rkp_ne (r3_rkp hr))).1
    have h2 := rkp_ne hk
    rw [← e, h1, rkep_not] at h2
    exact h2 rfl⟩)
  have hg := getR_nd (chk_nodup w.c) hxT
  have happ : applyM T ⟨0, x.path, rkep x.path⟩ s = putR T (kE x) := by
    unfold applyM
    rw [if_pos rfl, fileR, hg, hdir]
    rfl
  rw [happ]
  have hkind : ∀ y ∈ T, y.path = (kE x).path → y.dir = (kE x).dir := fun y hy e => by
    show y.dir = false
    rcases (h y).mp hy with ⟨z, _, _, rfl⟩ | ⟨h1, _⟩
    · rfl
    · have hgy := getR_nd nd h1
      rw [e] at hgy
      have hgy' : getR d (rkep x.path) = (y, true) := hgy
      have := rkp_nodir hk (by rw [hgy'])
      rw [hgy'] at this; exact this
  have hdirs : ∀ y ∈ d, y.dir = true → y ∈ T := fun y hy hyd => (h y).mpr (.inr ⟨hy, fun z hz hr e => by
    have hgy := getR_nd nd hy
    rw [← e] at hgy
    have := rkp_nodir (r3_rkp hr) (by rw [hgy])
    rw [hgy] at this
    rw [hyd] at this; cases this⟩)
  rcases put_ok w.c ok hkind (fun hp => by
    rw [hpar] at hp ⊢
    obtain ⟨y, hy, e1, e2, _⟩ := par_in hd hxd hp
    exact ⟨y, hdirs y hy e2, e1, e2⟩) with h5 | ⟨h0, hc0⟩
  · exact .inl h5
  obtain ⟨s1, s2⟩ := rput_sd (sd_of w.c) (kE x)
  have hway : Way d (vant s d del bak) (rputL T (kE x)) := by
    refine ⟨hc0, fun e he => ?_, fun u hu v hv e1 e2 => ?_⟩
    · rcases (s2 e).mp he with rfl | ⟨h1, _⟩
      · exact .inr hkE
      · exact w.m e h1
    · have h1 := w.k u hu v hv e1 e2
      obtain ⟨g1, g2⟩ := getR_in h1
      by_cases cc : u.path = (kE x).path
      · rw [cc, getR_nd (chk_nodup hc0) ((s2 _).mpr (.inl rfl))]
      · have := getR_nd (chk_nodup hc0) ((s2 _).mpr (.inr ⟨g1, by rw [g2]; exact cc⟩))
        rw [g2] at this; rw [this]
  rw [h0]
  refine .inr ⟨rfl, hway, hway, fun e => ?_⟩
  rw [s2, h]
  constructor
  · rintro (rfl | ⟨⟨y, hy, h1, h2⟩ | ⟨h1, h2⟩, hne⟩)
    · exact .inl ⟨x, by simp, c, rfl⟩
    · exact .inl ⟨y, by simp [hy], h1, h2⟩
    · refine .inr ⟨h1, fun y hy hr => ?_⟩
      rcases List.mem_append.mp hy with hy | hy
      · exact h2 y hy hr
      · rw [List.mem_singleton.mp hy]; exact Ne.symm hne
  · rintro (⟨y, hy, h1, rfl⟩ | ⟨h1, h2⟩)
    · rcases List.mem_append.mp hy with hy | hy
      · by_cases cc : (kE y).path = (kE x).path
        · left
          have e1 : y.path ++ [126] = x.path ++ [126] := by
            rw [← (kept_facts hd (had y hy) (r3_rkp h1)).2.2, ← hpth]; exact cc
          have e2 : y.path = x.path := List.append_cancel_right e1
          have g1 := getR_nd nd (had y hy)
          rw [e2, getR_nd nd hxd] at g1
          simp only [Prod.mk.injEq] at g1
          rw [g1.1]
        · exact .inr ⟨.inl ⟨y, hy, h1, rfl⟩, cc⟩
      · rw [List.mem_singleton.mp hy]; exact .inl rfl
    · exact .inr ⟨.inr ⟨h1, fun y hy hr => h2 y (by simp [hy]) hr⟩, fun e => h2 x (by simp) c e.symm⟩
end
end Sm

set_option linter.unusedVariables false
set_option linter.unusedSimpArgs false
set_option maxRecDepth 10000
set_option maxHeartbeats 1000000
namespace Sm
open Go
/-- Putting on the way. -/
theorem Way.put {d W T : List Ent} {e : Ent} (w : Way d W T) (hc : chkT (rputL T e) = 0) (he : e ∈ d ∨ e ∈ W) : Way d W (rputL T e) := by
  obtain ⟨s1, s2⟩ := rput_sd (sd_of w.c) e
  refine ⟨hc, fun y hy => ?_, fun u hu v hv e1 e2 => ?_⟩
  · rcases (s2 y).mp hy with rfl | ⟨h1, _⟩
    · exact he
    · exact w.m y h1
  · obtain ⟨g1, g2⟩ := getR_in (w.k u hu v hv e1 e2)
    by_cases cc : u.path = e.path
    · rw [cc, getR_nd (chk_nodup hc) ((s2 _).mpr (.inl rfl))]
    · have := getR_nd (chk_nodup hc) ((s2 _).mpr (.inr ⟨g1, by rw [g2]; exact cc⟩))
      rw [g2] at this; rw [this]
theorem nd_eq {l : List Ent} (h : Nd l) {a b : Ent} (ha : a ∈ l) (hb : b ∈ l) (e : a.path = b.path) : a = b := by
  have h1 := getR_nd h ha
  rw [e, getR_nd h hb] at h1
  simp only [Prod.mk.injEq] at h1
  exact h1.1.symm
theorem dir_data {e : Ent} (h : OkE e) (hd : e.dir = true) : e.data = [] := by
  have := h.k
  rw [hd] at this
  simp only [Bool.true_and, decide_eq_false_iff_not] at this
  exact List.length_eq_zero_iff.mp (by omega)
theorem dir_eq {a b : Ent} (ha : OkE a) (hb : OkE b) (e : a.path = b.path) (da : a.dir = true) (db : b.dir = true) : a = b := by
  obtain ⟨p, k, v⟩ := a
  obtain ⟨p', k', v'⟩ := b
  have h1 := dir_data ha da
  have h2 := dir_data hb db
  dsimp only at e da db h1 h2
  subst e da db h1 h2; rfl
section
variable {s d : List Ent} {del bak : Bool}
/-- Behind the keeping. -/
def In1 (s d : List Ent) (del bak : Bool) (e : Ent) : Prop := (∃ x ∈ d, rkp s d del bak x = true ∧ e = kE x) ∨ (e ∈ d ∧ ∀ x ∈ d, rkp s d del bak x = true → rkep x.path ≠ e.path)
theorem in1_of (hd : chkT d = 0) {T : List Ent} (h : I1 s d del bak d T) : ∀ e, e ∈ T ↔ In1 s d del bak e := by
  have nd := chk_nodup hd
  have same : ∀ x ∈ d, rkp s d del bak x = true → r3 s d del bak x = false → kE x ∈ d := fun x hx hk hr => by
    rw [r3, hk] at hr
    simp only [Bool.true_and, Bool.not_eq_false'] at hr
    rw [Bool.and_eq_true] at hr
    obtain ⟨g1, g2⟩ := getR_in hr.1
    have hdir := rkp_nodir hk hr.1
    have : (getR d (rkep x.path)).1 = kE x := by
      generalize (getR d (rkep x.path)).1 = y at g2 hdir hr
      obtain ⟨p, k, v⟩ := y
      have hv : v = x.data := by simpa using hr.2
      dsimp only at g2 hdir
      subst g2 hdir hv; rfl
    rw [← this]; exact g1
  intro e
  rw [h.2 e]
  constructor
  · rintro (⟨x, hx, hr, rfl⟩ | ⟨h1, h2⟩)
    · exact .inl ⟨x, hx, r3_rkp hr, rfl⟩
    · by_cases c : ∃ x ∈ d, rkp s d del bak x = true ∧ rkep x.path = e.path
      · obtain ⟨x, hx, hk, hp⟩ := c
        cases hr : r3 s d del bak x
        · exact .inl ⟨x, hx, hk, nd_eq nd h1 (same x hx hk hr) hp.symm⟩
        · exact absurd hp (h2 x hx hr)
      · exact .inr ⟨h1, fun x hx hk hp => c ⟨x, hx, hk, hp⟩⟩
  · rintro (⟨x, hx, hk, rfl⟩ | ⟨h1, h2⟩)
    · cases hr : r3 s d del bak x
      · refine .inr ⟨same x hx hk hr, fun y hy hr2 hp => ?_⟩
        have hp' : rkep y.path = rkep x.path := hp
        rw [(rkep_ne (rkp_ne (r3_rkp hr2))).1, (rkep_ne (rkp_ne hk)).1] at hp'
        have := nd_eq nd hy hx (List.append_cancel_right hp')
        rw [this, hr] at hr2; cases hr2
      · exact .inl ⟨x, hx, hr, rfl⟩
    · exact .inr ⟨h1, fun x hx hr => h2 x hx (r3_rkp hr)⟩
theorem q4_no {W : List Ent} (nW : Nd W) {x w : Ent} (hw : w ∈ W) (e : w.path = x.path) (k : w.dir = x.dir) : q4 W x = false := by
  have := getR_nd nW hw
  rw [e] at this
  unfold q4; rw [this, k]; simp
def I2 (s d : List Ent) (del bak : Bool) (a T : List Ent) : Prop := Way d (vant s d del bak) T ∧ ∀ e, e ∈ T ↔ In1 s d del bak e ∧ ∀ x ∈ a, q4 (vant s d del bak) x = true → x.path ≠ e.path
theorem phase2 (hs : chkT s = 0) (hd : chkT d = 0) (hl : (vant s d del bak).length ≤ 64) {Q : List Ent → Prop} (hQ : ∀ T, I2 s d del bak d.reverse T → Q T) {T : List Ent} (hT : I1 s d del bak d T) : Runs s d (vant s d del bak) Q T (pushes 1 (q4 (vant s d del bak)) (fun _ => []) d.reverse) := by
  have nd := chk_nodup hd
  have hWc := vant_chk (del := del) (bak := bak) hs hd hl
  have nW : Nd (vant s d del bak) := chk_nodup hWc
  have hkE : ∀ x ∈ d, rkp s d del bak x = true → kE x ∈ vant s d del bak := fun x hx hk => kE_in hs hd hx hk
  generalize hWe : vant s d del bak = W at hQ hWc nW hkE hl
  refine runs_pushes (fun a T => Way d W T ∧ ∀ e, e ∈ T ↔ In1 s d del bak e ∧ ∀ x ∈ a, q4 W x = true → x.path ≠ e.path) d.reverse [] T ⟨by rw [← hWe]; exact hT.1, fun e => by rw [in1_of hd hT]; simp⟩ (fun a x b T _ ⟨w, h⟩ c => ⟨w, fun e => ?_⟩) (fun a x b hab T ⟨w, h⟩ c => ?_) (fun T h => hQ T (by
    have h' : Way d W T ∧ ∀ e, e ∈ T ↔ In1 s d del bak e ∧ ∀ x ∈ d.reverse, q4 W x = true → x.path ≠ e.path := by simpa using h
    unfold I2; rw [hWe]; exact h'))
  · rw [h]
    refine and_congr Iff.rfl ⟨fun h1 y hy hq => ?_, fun h1 y hy hq => h1 y (by simp [hy]) hq⟩
    rcases List.mem_append.mp hy with hy | hy
    · exact h1 y hy hq
    · rw [List.mem_singleton.mp hy, c] at hq; cases hq
  have hab' : d.reverse = a ++ x :: b := by simpa using hab
  have hxd : x ∈ d := by
    have : x ∈ d.reverse := by rw [hab']; simp
    exact List.mem_reverse.mp this
  have nrev : (a ++ x :: b).Pairwise fun u v => lessP v.path u.path = true := by
    rw [← hab']; exact List.pairwise_reverse.mpr (sd_of hd)
  obtain ⟨_, p2, p3⟩ := List.pairwise_append.mp nrev
  obtain ⟨p4, _⟩ := List.pairwise_cons.mp p2
  have hIn : In1 s d del bak x := .inr ⟨hxd, fun y hy hk hp => by
    have h1 := rkp_nodir hk (by rw [hp, getR_nd nd hxd])
    rw [hp, getR_nd nd hxd] at h1
    have := q4_no nW (hkE y hy hk) (show (kE y).path = x.path from hp) (by show false = x.dir; exact h1.symm)
    rw [this] at c; cases c⟩
  have hxT : x ∈ T := (h x).mpr ⟨hIn, fun y hy _ e => by
    have := p3 y hy x (by simp)
    rw [e, lessP_irr] at this; cases this⟩
  have hxp : x.path ≠ [] := mem_path hd hxd
  have hch : ∀ y ∈ T, parL y.path ≠ x.path := by
    intro y hy hp
    have hp0 : parL y.path ≠ [] := by rw [hp]; exact hxp
    obtain ⟨z, hz, z1, z2, _⟩ := par_in w.c hy hp0
    have hzx : z = x := nd_eq (chk_nodup w.c) hz hxT (by rw [z1, hp])
    rw [hzx] at z2
    cases cW : (getR W y.path).2
    · obtain ⟨h1, h2⟩ := (h y).mp hy
      have hyd : y ∈ d := by
        rcases h1 with ⟨u, hu, hk, rfl⟩ | ⟨h1, _⟩
        · rw [getR_nd nW (hkE u hu hk)] at cW; cases cW
        · exact h1
      have hya : y ∈ a := by
        have : y ∈ a ++ x :: b := by rw [← hab']; exact List.mem_reverse.mpr hyd
        rcases List.mem_append.mp this with h3 | h3
        · exact h3
        · have hlt := lessP_par hp0
          rw [hp] at hlt
          rcases List.mem_cons.mp h3 with rfl | h3
          · rw [lessP_irr] at hlt; cases hlt
          · have := lessP_trans hlt (p4 y h3)
            rw [lessP_irr] at this; cases this
      exact h2 y hya (by unfold q4; rw [cW]; rfl) rfl
    · obtain ⟨g1, g2⟩ := getR_in cW
      obtain ⟨v, hv, v1, v2, _⟩ := par_in hWc g1 (by rw [g2]; exact hp0)
      have := q4_no nW hv (show v.path = x.path by rw [v1, g2, hp]) (by rw [v2, z2])
      rw [this] at c; cases c
  obtain ⟨r1, r2⟩ := rem_ok w.c hxT hch
  have happ : applyM T ⟨1, x.path, []⟩ s = remR T x.path := by
    unfold applyM; rw [if_neg (show ¬ (1 : UInt8) = 0 by decide), if_pos rfl]
  rw [happ, r1]
  have hm : ∀ e, e ∈ T.filter (fun e => !(e.path == x.path)) ↔ e ∈ T ∧ e.path ≠ x.path := fun e => by rw [List.mem_filter]; simp
  refine .inr ⟨rfl, ⟨r2, fun e he => w.m e ((hm e).mp he).1, fun u hu v hv e1 e2 => ?_⟩, ⟨r2, fun e he => w.m e ((hm e).mp he).1, fun u hu v hv e1 e2 => ?_⟩, fun e => ?_⟩
  · obtain ⟨g1, g2⟩ := getR_in (w.k u hu v hv e1 e2)
    have hne : u.path ≠ x.path := fun e => by
      have hux := nd_eq nd hu hxd e
      subst hux
      have := q4_no nW hv e1.symm e2.symm
      rw [this] at c; cases c
    have := getR_nd (chk_nodup r2) ((hm _).mpr ⟨g1, by rw [g2]; exact hne⟩)
    rw [g2] at this; rw [this]
  · obtain ⟨g1, g2⟩ := getR_in (w.k u hu v hv e1 e2)
    have hne : u.path ≠ x.path := fun e => by
      have hux := nd_eq nd hu hxd e
      subst hux
      have := q4_no nW hv e1.symm e2.symm
      rw [this] at c; cases c
    have := getR_nd (chk_nodup r2) ((hm _).mpr ⟨g1, by rw [g2]; exact hne⟩)
    rw [g2] at this; rw [this]
  · rw [hm, h]
    constructor
    · rintro ⟨⟨h1, h2⟩, h3⟩
      refine ⟨h1, fun y hy hq => ?_⟩
      rcases List.mem_append.mp hy with hy | hy
      · exact h2 y hy hq
      · rw [List.mem_singleton.mp hy]; exact Ne.symm h3
    · rintro ⟨h1, h2⟩
      exact ⟨⟨h1, fun y hy hq => h2 y (by simp [hy]) hq⟩, fun e => h2 x (by simp) c e.symm⟩
end
end Sm

set_option linter.unusedVariables false
set_option linter.unusedSimpArgs false
set_option maxRecDepth 10000
set_option maxHeartbeats 1000000
namespace Sm
open Go
section
variable {s d : List Ent} {del bak : Bool}
def In2 (s d W : List Ent) (del bak : Bool) (e : Ent) : Prop := In1 s d del bak e ∧ ∀ x ∈ d, q4 W x = true → x.path ≠ e.path
def In3 (s d W : List Ent) (del bak : Bool) (e : Ent) : Prop := In2 s d W del bak e ∨ (e ∈ W ∧ r5 d e = true)
/-- What both trees are. -/
structure Two (s d W : List Ent) (del bak : Bool) : Prop where
  cs : chkT s = 0
  cd : chkT d = 0
  cw : chkT W = 0
  ke : ∀ x ∈ d, rkp s d del bak x = true → kE x ∈ W
  src : ∀ e ∈ s, e ∈ W
  iff : ∀ e, e ∈ W ↔ e ∈ s ∨ (((∃ x ∈ d, rkp s d del bak x = true ∧ e = kE x) ∨ (e ∈ d ∧ rst s del e = true ∧ ∀ x ∈ d, rkp s d del bak x = true → rkep x.path ≠ e.path)) ∧ ∀ y ∈ s, y.path ≠ e.path)
theorem two_of (hs : chkT s = 0) (hd : chkT d = 0) (hl : (vant s d del bak).length ≤ 64) : Two s d (vant s d del bak) del bak :=
  ⟨hs, hd, vant_chk hs hd hl, fun x hx hk => kE_in hs hd hx hk, fun e he => ((vant_iff hs hd).2 e).mpr (.inl he), (vant_iff hs hd).2⟩
variable {W : List Ent}
/-- A directory of the destination that is wanted still is there behind the removing. -/
theorem in2_dir (t : Two s d W del bak) {y z : Ent} (hy : y ∈ d) (yd : y.dir = true) (hz : z ∈ W) (e : z.path = y.path) (k : z.dir = true) : In2 s d W del bak y := by
  refine ⟨.inr ⟨hy, fun x hx hk hp => ?_⟩, fun x hx hq hp => ?_⟩
  · have h1 := rkp_nodir hk (by rw [hp, getR_nd (chk_nodup t.cd) hy])
    rw [hp, getR_nd (chk_nodup t.cd) hy] at h1
    have h1' : y.dir = false := h1
    rw [yd] at h1'; cases h1'
  · have := nd_eq (chk_nodup t.cd) hx hy hp
    subst this
    rw [q4_no (chk_nodup t.cw) hz e (by rw [k, yd])] at hq; cases hq
/-- What is there behind the removing, and is wanted, is of the same kind. -/
theorem in2_kind (t : Two s d W del bak) {y w : Ent} (h : In2 s d W del bak y) (hw : w ∈ W) (e : y.path = w.path) : y.dir = w.dir := by
  obtain ⟨h1, h2⟩ := h
  rcases h1 with ⟨x, hx, hk, rfl⟩ | ⟨hy, _⟩
  · rw [nd_eq (chk_nodup t.cw) (t.ke x hx hk) hw e]
  · cases c : q4 W y
    · unfold q4 at c
      have := getR_nd (chk_nodup t.cw) hw
      rw [← e] at this
      rw [this] at c
      simp only [Bool.not_true, Bool.false_or, Bool.not_eq_false'] at c
      have : w.dir = y.dir := by simpa using c
      exact this.symm
    · exact absurd rfl (h2 y hy c)
theorem r5_no {z : Ent} (h : r5 d z = false) (k : z.dir = true) : ∃ y ∈ d, y.path = z.path ∧ y.dir = true := by
  rw [r5, k] at h
  simp only [Bool.true_and, Bool.not_eq_false'] at h
  rw [Bool.and_eq_true] at h
  obtain ⟨g1, g2⟩ := getR_in h.1
  exact ⟨_, g1, g2, h.2⟩
theorem r5_yes {z y : Ent} (t : Two s d W del bak) (h : r5 d z = true) (hy : y ∈ d) (e : y.path = z.path) : z.dir = true ∧ y.dir = false := by
  rw [r5, Bool.and_eq_true, ← e, getR_nd (chk_nodup t.cd) hy] at h
  exact ⟨h.1, by simpa using h.2⟩
/-- A directory that is wanted is there behind the making, or was there. -/
theorem dir3 (t : Two s d W del bak) {z : Ent} (hz : z ∈ W) (k : z.dir = true) : (r5 d z = true) ∨ ∃ y, In2 s d W del bak y ∧ y.path = z.path ∧ y.dir = true := by
  cases c : r5 d z
  · obtain ⟨y, hy, e, yd⟩ := r5_no c k
    exact .inr ⟨y, in2_dir t hy yd hz e.symm k, e, yd⟩
  · exact .inl rfl
theorem phase3 (t : Two s d W del bak) {Q : List Ent → Prop} (hQ : ∀ T, Way d W T → (∀ e, e ∈ T ↔ In3 s d W del bak e) → Q T) {T : List Ent} (w0 : Way d W T) (hT : ∀ e, e ∈ T ↔ In2 s d W del bak e) : Runs s d W Q T (pushes 2 (r5 d) (fun _ => []) W) := by
  have nW := chk_nodup t.cw
  have sW := sd_of t.cw
  refine runs_pushes (fun a T => Way d W T ∧ ∀ e, e ∈ T ↔ In2 s d W del bak e ∨ (e ∈ a ∧ r5 d e = true)) W [] T ⟨w0, fun e => by rw [hT]; simp⟩ (fun a x b T _ ⟨w, h⟩ c => ⟨w, fun e => ?_⟩) (fun a x b hab T ⟨w, h⟩ c => ?_) (fun T h => hQ T h.1 (fun e => by unfold In3; simpa using h.2 e))
  · rw [h]
    refine or_congr Iff.rfl ⟨fun h1 => ⟨by simp [h1.1], h1.2⟩, fun ⟨h1, h2⟩ => ?_⟩
    rcases List.mem_append.mp h1 with h1 | h1
    · exact ⟨h1, h2⟩
    · rw [List.mem_singleton.mp h1, c] at h2; cases h2
  have hab' : W = a ++ x :: b := by simpa using hab
  have hxW : x ∈ W := by rw [hab']; simp
  have haW : ∀ y ∈ a, y ∈ W := fun y hy => by rw [hab']; simp [hy]
  have hsp : (a ++ x :: b).Pairwise fun u v => lessP u.path v.path = true := by rw [← hab']; exact sW
  obtain ⟨_, p2, p3⟩ := List.pairwise_append.mp hsp
  have hxd : x.dir = true := by rw [r5, Bool.and_eq_true] at c; exact c.1
  have okx := okE_of t.cw hxW
  have hxe : (⟨x.path, true, []⟩ : Ent) = x := by
    have h1 := dir_data okx hxd
    obtain ⟨p, k, v⟩ := x
    dsimp only at hxd h1
    subst hxd h1; rfl
  have happ : applyM T ⟨2, x.path, []⟩ s = putR T x := by
    unfold applyM
    rw [if_neg (show ¬ (2 : UInt8) = 0 by decide), if_neg (show ¬ (2 : UInt8) = 1 by decide), if_pos rfl, hxe]
  have hnone : ∀ y ∈ T, y.path ≠ x.path := fun y hy e => by
    rcases (h y).mp hy with h1 | ⟨h1, h2⟩
    · have hk := in2_kind t h1 hxW e
      rcases h1.1 with ⟨u, hu, hku, rfl⟩ | ⟨hyd, _⟩
      · have : (kE u).dir = false := rfl
        rw [this, hxd] at hk; cases hk
      · have := (r5_yes t c hyd e).2
        rw [hk, hxd] at this; cases this
    · have := p3 y h1 x (by simp)
      rw [e, lessP_irr] at this; cases this
  rw [happ]
  rcases put_ok w.c okx (fun y hy e => absurd e (hnone y hy)) (fun hp => by
    obtain ⟨z, hz, z1, z2, _⟩ := par_in t.cw hxW hp
    rcases dir3 t hz z2 with h5 | ⟨y, h5, e, yd⟩
    · refine ⟨z, (h z).mpr (.inr ⟨?_, h5⟩), z1, z2⟩
      have hlt := lessP_par hp
      rw [← z1] at hlt
      have : z ∈ a ++ x :: b := by rw [← hab']; exact hz
      rcases List.mem_append.mp this with h3 | h3
      · exact h3
      · rcases List.mem_cons.mp h3 with rfl | h3
        · rw [lessP_irr] at hlt; cases hlt
        · have := lessP_trans hlt ((List.pairwise_cons.mp p2).1 z h3)
          rw [lessP_irr] at this; cases this
    · exact ⟨y, (h y).mpr (.inl h5), by rw [e, z1], yd⟩) with h5 | ⟨h0, hc0⟩
  · exact .inl h5
  obtain ⟨s1, s2⟩ := rput_sd (sd_of w.c) x
  have hway := w.put hc0 (.inr hxW)
  rw [h0]
  refine .inr ⟨rfl, hway, hway, fun e => ?_⟩
  rw [s2]
  constructor
  · rintro (rfl | ⟨h1, _⟩)
    · exact .inr ⟨by simp, c⟩
    · rcases (h e).mp h1 with h2 | ⟨h2, h3⟩
      · exact .inl h2
      · exact .inr ⟨by simp [h2], h3⟩
  · rintro (h1 | ⟨h1, h2⟩)
    · have := (h e).mpr (.inl h1)
      exact .inr ⟨this, hnone e this⟩
    · rcases List.mem_append.mp h1 with h1 | h1
      · have := (h e).mpr (.inr ⟨h1, h2⟩)
        exact .inr ⟨this, hnone e this⟩
      · exact .inl (List.mem_singleton.mp h1)
theorem phase4 (t : Two s d W del bak) {Q : List Ent → Prop} (hQ : ∀ T, Way d W T → (∀ e, e ∈ T ↔ (e ∈ s ∧ r6 d e = true) ∨ (In3 s d W del bak e ∧ ∀ x ∈ s, r6 d x = true → x.path ≠ e.path)) → Q T) {T : List Ent} (w0 : Way d W T) (hT : ∀ e, e ∈ T ↔ In3 s d W del bak e) : Runs s d W Q T (pushes 3 (r6 d) (fun _ => []) s) := by
  have nW := chk_nodup t.cw
  have ns := chk_nodup t.cs
  refine runs_pushes (fun a T => Way d W T ∧ ∀ e, e ∈ T ↔ (e ∈ a ∧ r6 d e = true) ∨ (In3 s d W del bak e ∧ ∀ x ∈ a, r6 d x = true → x.path ≠ e.path)) s [] T ⟨w0, fun e => by rw [hT]; simp⟩ (fun a x b T _ ⟨w, h⟩ c => ⟨w, fun e => ?_⟩) (fun a x b hab T ⟨w, h⟩ c => ?_) (fun T h => hQ T h.1 (by simpa using h.2))
  · rw [h]
    refine or_congr ⟨fun h1 => ⟨by simp [h1.1], h1.2⟩, fun ⟨h1, h2⟩ => ?_⟩ (and_congr Iff.rfl ⟨fun h1 y hy hq => ?_, fun h1 y hy hq => h1 y (by simp [hy]) hq⟩)
    · rcases List.mem_append.mp h1 with h1 | h1
      · exact ⟨h1, h2⟩
      · rw [List.mem_singleton.mp h1, c] at h2; cases h2
    · rcases List.mem_append.mp hy with hy | hy
      · exact h1 y hy hq
      · rw [List.mem_singleton.mp hy, c] at hq; cases hq
  have hab' : s = a ++ x :: b := by simpa using hab
  have hxs : x ∈ s := by rw [hab']; simp
  have has : ∀ y ∈ a, y ∈ s := fun y hy => by rw [hab']; simp [hy]
  have hxW := t.src x hxs
  have okx := okE_of t.cw hxW
  have hxd : x.dir = false := by rw [r6, Bool.and_eq_true] at c; simpa using c.1
  have happ : applyM T ⟨3, x.path, []⟩ s = putR T x := by
    unfold applyM
    rw [if_neg (show ¬ (3 : UInt8) = 0 by decide), if_neg (show ¬ (3 : UInt8) = 1 by decide), if_neg (show ¬ (3 : UInt8) = 2 by decide), if_pos rfl, fileR, getR_nd ns hxs, hxd]; rfl
  rw [happ]
  have in3k : ∀ y, In3 s d W del bak y → ∀ v ∈ W, y.path = v.path → y.dir = v.dir := fun y hy v hv e => by
    rcases hy with hy | ⟨hy, _⟩
    · exact in2_kind t hy hv e
    · rw [nd_eq nW hy hv e]
  rcases put_ok w.c okx (fun y hy e => by
    rcases (h y).mp hy with ⟨h1, _⟩ | ⟨h1, _⟩
    · rw [nd_eq ns (has y h1) hxs e]
    · exact in3k y h1 x hxW e) (fun hp => by
    obtain ⟨z, hz, z1, z2, _⟩ := par_in t.cw hxW hp
    have hno : ∀ u ∈ a, r6 d u = true → u.path ≠ z.path := fun u hu hr e => by
      have := nd_eq nW (t.src u (has u hu)) hz e
      subst this
      rw [r6, z2] at hr; cases hr
    rcases dir3 t hz z2 with h5 | ⟨y, h5, e, yd⟩
    · exact ⟨z, (h z).mpr (.inr ⟨.inr ⟨hz, h5⟩, hno⟩), z1, z2⟩
    · exact ⟨y, (h y).mpr (.inr ⟨.inl h5, fun u hu hr e2 => hno u hu hr (by rw [e2, e])⟩), by rw [e, z1], yd⟩) with h5 | ⟨h0, hc0⟩
  · exact .inl h5
  obtain ⟨s1, s2⟩ := rput_sd (sd_of w.c) x
  have hway := w.put hc0 (.inr hxW)
  rw [h0]
  refine .inr ⟨rfl, hway, hway, fun e => ?_⟩
  rw [s2, h]
  constructor
  · rintro (rfl | ⟨⟨h1, h2⟩ | ⟨h1, h2⟩, hne⟩)
    · exact .inl ⟨by simp, c⟩
    · exact .inl ⟨by simp [h1], h2⟩
    · refine .inr ⟨h1, fun y hy hq => ?_⟩
      rcases List.mem_append.mp hy with hy | hy
      · exact h2 y hy hq
      · rw [List.mem_singleton.mp hy]; exact Ne.symm hne
  · rintro (⟨h1, h2⟩ | ⟨h1, h2⟩)
    · rcases List.mem_append.mp h1 with h1 | h1
      · by_cases cc : e.path = x.path
        · exact .inl (nd_eq ns (has e h1) hxs cc)
        · exact .inr ⟨.inl ⟨h1, h2⟩, cc⟩
      · exact .inl (List.mem_singleton.mp h1)
    · exact .inr ⟨.inr ⟨h1, fun y hy hq => h2 y (by simp [hy]) hq⟩, fun e2 => h2 x (by simp) c e2.symm⟩
end
end Sm

set_option linter.unusedVariables false
set_option linter.unusedSimpArgs false
set_option maxRecDepth 10000
set_option maxHeartbeats 1000000
namespace Sm
open Go
section
variable {s d W : List Ent} {del bak : Bool}
theorem reach_end (t : Two s d W del bak) {T : List Ent} (w : Way d W T) (h : ∀ e, e ∈ T ↔ (e ∈ s ∧ r6 d e = true) ∨ (In3 s d W del bak e ∧ ∀ x ∈ s, r6 d x = true → x.path ≠ e.path)) : T = W := by
  have nW := chk_nodup t.cw
  have nd := chk_nodup t.cd
  have ns := chk_nodup t.cs
  refine srt_ext (sd_of w.c) (sd_of t.cw) fun e => ?_
  rw [h]
  constructor
  · rintro (⟨h1, _⟩ | ⟨h1 | ⟨h1, _⟩, h2⟩)
    · exact t.src e h1
    · obtain ⟨h3, h4⟩ := h1
      rcases h3 with ⟨x, hx, hk, rfl⟩ | ⟨hd, hno⟩
      · exact t.ke x hx hk
      · have hq : q4 W e = false := by
          cases c : q4 W e
          · rfl
          · exact absurd rfl (h4 e hd c)
        unfold q4 at hq
        simp only [Bool.or_eq_false_iff, Bool.not_eq_false'] at hq
        obtain ⟨g1, g2⟩ := getR_in hq.1
        have hk : (getR W e.path).1.dir = e.dir := by simpa using hq.2
        generalize (getR W e.path).1 = v at g1 g2 hk
        rcases (t.iff v).mp g1 with hv | ⟨⟨x, hx, hkx, rfl⟩ | ⟨hv, _, _⟩, _⟩
        · have hr : r6 d v = false := by
            cases c : r6 d v
            · rfl
            · exact absurd g2 (h2 v hv c)
          cases cd : v.dir
          · rw [r6, cd, g2, getR_nd nd hd] at hr
            have hed : e.dir = false := by rw [← hk, cd]
            simp only [Bool.not_false, Bool.true_and, hed, Bool.not_eq_false', beq_iff_eq] at hr
            have : e = v := by
              obtain ⟨p, k, b⟩ := e
              obtain ⟨p', k', b'⟩ := v
              dsimp only at g2 hk hr cd hed
              subst g2 hr cd hed; rfl
            rw [this]; exact g1
          · have : e = v := dir_eq (okE_of t.cd hd) (okE_of t.cw g1) g2.symm (by rw [← hk, cd]) cd
            rw [this]; exact g1
        · exact absurd g2 (hno x hx hkx)
        · rw [nd_eq nd hd hv g2.symm]; exact g1
    · exact h1
  · intro he
    rcases (t.iff e).mp he with hs | ⟨⟨x, hx, hk, rfl⟩ | ⟨hd, hr, hno⟩, hn⟩
    · cases c : r6 d e
      · right
        have hnr : ∀ x ∈ s, r6 d x = true → x.path ≠ e.path := fun x hx hr hp => by
          rw [nd_eq ns hx hs hp, c] at hr; cases hr
        refine ⟨?_, hnr⟩
        cases cd : e.dir
        · rw [r6, cd] at c
          simp only [Bool.not_false, Bool.true_and, Bool.not_eq_false'] at c
          rw [Bool.and_eq_true, Bool.and_eq_true] at c
          obtain ⟨g1, g2⟩ := getR_in c.1
          have hk : (getR d e.path).1.dir = false := by simpa using c.2.1
          have hdt : (getR d e.path).1.data = e.data := by simpa using c.2.2
          have hed : (getR d e.path).1 = e := by
            generalize (getR d e.path).1 = y at g2 hk hdt
            obtain ⟨p, k, b⟩ := e
            obtain ⟨p', k', b'⟩ := y
            dsimp only at g2 hk hdt cd
            subst g2 hk hdt cd; rfl
          rw [hed] at g1
          refine .inl ⟨.inr ⟨g1, fun x hx hkx hp => ?_⟩, fun x hx hq hp => ?_⟩
          · have : (getR s (rkep x.path)).2 = false := by
              cases cc : (getR s (rkep x.path)).2
              · rfl
              · rw [rkp, cc] at hkx; simp at hkx
            rw [hp, getR_nd ns hs] at this; cases this
          · rw [nd_eq nd hx g1 hp, q4_no nW he rfl rfl] at hq; cases hq
        · cases c5 : r5 d e
          · obtain ⟨y, hy, yp, yd⟩ := r5_no c5 cd
            have : y = e := dir_eq (okE_of t.cd hy) (okE_of t.cw he) yp yd cd
            rw [this] at hy
            exact .inl (in2_dir t hy cd he rfl cd)
          · exact .inr ⟨he, c5⟩
      · exact .inl ⟨hs, rfl⟩
    · refine .inr ⟨.inl ⟨.inl ⟨x, hx, hk, rfl⟩, fun y hy hq hp => ?_⟩, fun y hy _ => hn y hy⟩
      have h1 := rkp_nodir hk (by show (getR d (kE x).path).2 = true; rw [← hp, getR_nd nd hy])
      have h1' : (getR d (kE x).path).1.dir = false := h1
      rw [← hp, getR_nd nd hy] at h1'
      rw [q4_no nW he hp.symm (show (kE x).dir = y.dir from h1'.symm)] at hq; cases hq
    · refine .inr ⟨.inl ⟨.inr ⟨hd, hno⟩, fun y hy hq hp => ?_⟩, fun y hy _ => hn y hy⟩
      rw [nd_eq nd hy hd hp, q4_no nW he rfl rfl] at hq; cases hq
end
/-- The steps lead there. -/
theorem runs_all {s d : List Ent} {del bak : Bool} (hs : chkT s = 0) (hd : chkT d = 0) (hl : (vant s d del bak).length ≤ 64) : Runs s d (vant s d del bak) (fun T => T = vant s d del bak) d (stepsR s d del bak (vant s d del bak)) := by
  have t := two_of (del := del) (bak := bak) hs hd hl
  unfold stepsR
  refine Runs.app (Runs.app (Runs.app (phase1 hs hd hl fun T1 h1 => phase2 hs hd hl (fun T2 h2 => ?_) h1)))
  refine phase3 t (fun T3 w3 h3 => phase4 t (fun T4 w4 h4 => reach_end t w4 h4) w3 h3) h2.1 fun e => ?_
  rw [h2.2]
  exact and_congr Iff.rfl ⟨fun h x hx => h x (List.mem_reverse.mpr hx), fun h x hx => h x (List.mem_reverse.mp hx)⟩
theorem way_at {d W T : List Ent} (w : Way d W T) (nd : Nd d) (nW : Nd W) {e : Ent} (he : e ∈ T) : pathM d W e.path e true = true ∧ pathM W d e.path e true = true := by
  unfold pathM
  simp only [if_true]
  rcases w.m e he with h | h
  · rw [getR_nd nd h, sameT_self]; simp
  · rw [getR_nd nW h, sameT_self]; simp
theorem way_path {d W T : List Ent} (w : Way d W T) (nd : Nd d) (nW : Nd W) (p : List UInt8) : pathM d W p (getR T p).1 (getR T p).2 = true ∧ pathM W d p (getR T p).1 (getR T p).2 = true := by
  cases c : (getR T p).2
  · unfold pathM
    simp only [Bool.false_eq_true, if_false]
    cases c1 : (getR d p).2
    · simp
    · cases c2 : (getR W p).2
      · simp
      · obtain ⟨a1, a2⟩ := getR_in c1
        obtain ⟨b1, b2⟩ := getR_in c2
        have hne : ¬ (getR d p).1.dir = (getR W p).1.dir := fun e => by
          have := w.k _ a1 _ b1 (by rw [a2, b2]) e
          rw [a2, c] at this; cases this
        have hne2 : ¬ (getR W p).1.dir = (getR d p).1.dir := fun e => hne e.symm
        simp [hne, hne2]
  · obtain ⟨g1, g2⟩ := getR_in c
    have := way_at w nd nW g1
    rw [g2] at this
    exact this
end Sm
