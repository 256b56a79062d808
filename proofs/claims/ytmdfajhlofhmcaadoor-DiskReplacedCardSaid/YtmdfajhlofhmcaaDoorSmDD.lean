/-
  A layer of one's own: texts D13,D14.
-/
import Derived.Test.YtmdfajhlofhmcaaDoorSmDC
set_option linter.unusedVariables false
set_option linter.unusedSimpArgs false
set_option maxRecDepth 10000
set_option maxHeartbeats 1000000
namespace Sm
open Go
-- BASE dkU
theorem fs_one {H : Heap} {v : HV} {l : List Fl} (h : FS H v l) : v.one = true := by
  rcases h with ⟨rfl, _⟩ | ⟨fb, c, zs, rfl, _⟩ <;> rfl
attribute [local irreducible] csem rsem dsem seqK blockK normK finK DK RK JK BR G3 resK Spec Tok Fr CV

theorem drenames_spec (L : Linked code) (b : Nat) (h : Hd) (d : Dk) (p q : List UInt8) (n m : Nat) (hw : d.WF n m) (hn : n < 1048576) (hp : p.length ≤ 1048576) (hq : q.length ≤ 1048576) (H : Heap) (hD : KD H b h d)
    (K) (hk : ∀ Y h', KD Y b h' (d.rename p q).1 → Own H Y (h.bs b) (h'.bs b) → K (I (d.rename p q).2) Y) : Spec L.P L.ν 309 [ptr b, S p, S q] H K := by
  unfold Dk.rename at hk
  have hlen := hw.len
  have hop := hw.op
  refine go_spec L code309 rfl ?_
  repeat (refine gk dkU ?_)
  refine bxk dkU ?_
  intro c3 X1 h3 x3 f1 _
  repeat (refine gk dkU ?_)
  refine bxk dkU ?_
  intro c4 X2 h4 x4 f2 _
  have x3a := f2.get (by simp) x3
  repeat (refine gk dkU ?_)
  refine bxk dkU ?_
  intro c5 X3 h5 x5 f3 _
  have x3b := f3.get (by simp) x3a
  have x4b := f3.get (by simp) x4
  have f0 := (f1.trans f2).trans f3
  have hD3 := hD.fr0 f0
  have n3 := hD.new h3
  have n4 := hD.new (f1.of_none h4)
  have n5 := hD.new ((f1.trans f2).of_none h5)
  clear x3 x4 x3a
  repeat (refine gk dkU ?_)
  (apply r_call; (focus rfl))
  refine asked_spec L b h d .full [p, q] (by simpa using ⟨hp, hq⟩) (by simp) X3 hD3 _ fun X4 f4 => ?_
  rw [askD_two]
  have fa := f0.trans f4
  have hD4 := hD3.fr0 f4
  have ob4 := hD4.ob
  have x3c := f4.get (by simp) x3b
  have x4c := f4.get (by simp) x4b
  have x5c := f4.get (by simp) x5
  have o4 := Own.of (h.bs b) fa
  clear x3b x4b x5
  cases c1 : (d.asked p != 0)
  case true =>
    have c1' : d.asked p ≠ 0 := by simpa using c1
    rw [if_pos c1'] at hk
    rw [if_pos c1']
    repeat (refine gk (And.intro dkU c1) ?_)
    exact resK_some (hk X4 h hD4 o4)
  have c1' : ¬ d.asked p ≠ 0 := by simpa using c1
  rw [if_neg c1'] at hk
  rw [if_neg c1']
  repeat (refine gk dkU ?_)
  cases c2 : (chkP q != 0)
  case true =>
    have c2' : chkP q ≠ 0 := by simpa using c2
    rw [if_pos c2'] at hk
    repeat (refine gk (And.intro dkU c2) ?_)
    exact resK_some (hk X4 h hD4 o4)
  have c2' : ¬ chkP q ≠ 0 := by simpa using c2
  rw [if_neg c2'] at hk
  repeat (refine gk (And.intro dkU c2) ?_)
  (apply r_call; (focus rfl))
  refine dfile_spec L b h d p hw.now_sn (fun x hx => (hw.now_ok x hx).2.1) X4 hD4 _ ?_
  cases e2 : (fileD d.now p != 0)
  case true =>
    have e2' : fileD d.now p ≠ 0 := by simpa using e2
    rw [if_pos e2'] at hk
    rw [if_neg e2']
    repeat (refine gk (And.intro dkU e2) ?_)
    exact resK_some (hk X4 h hD4 o4)
  have e2' : fileD d.now p = 0 := by simpa using e2
  rw [if_neg (by simp [e2'])] at hk
  rw [if_pos e2']
  repeat (refine gk (And.intro dkU e2) ?_)
  (apply r_call; (focus rfl))
  refine dparent_spec L b h d q hq hw.now_sn X4 hD4 _ ?_
  repeat (refine gk dkU ?_)
  cases c3' : (parD d.now q != 0)
  case true =>
    have c3'' : parD d.now q ≠ 0 := by simpa using c3'
    rw [if_pos c3''] at hk
    repeat (refine gk (And.intro dkU c3') ?_)
    exact resK_some (hk X4 h hD4 o4)
  have c3'' : ¬ parD d.now q ≠ 0 := by simpa using c3'
  rw [if_neg c3''] at hk
  repeat (refine gk (And.intro dkU c3') ?_)
  apply r_lkpN hD4.no hw.now_sn; (focus rfl)
  have hdir : (getN d.now q).any (·.dir) = (if (getN d.now q).isSome then dirO (getN d.now q) else false) := by cases getN d.now q <;> rfl
  rw [hdir] at hk
  repeat (refine gk dkU ?_)
  cases e3 : (getN d.now q).isSome && dirO (getN d.now q)
  case true =>
    rw [Bool.and_eq_true] at e3
    obtain ⟨e4, e5⟩ := e3
    rw [e4, e5] at hk ⊢
    simp only [if_true] at hk
    repeat (refine gk dkU ?_)
    exact resK_some (hk X4 h hD4 o4)
  have e4 : (if (getN d.now q).isSome then dirO (getN d.now q) else false) = false := by
    cases h1 : (getN d.now q).isSome
    · rfl
    · rw [h1] at e3; simpa using e3
  rw [e4] at hk
  simp only [Bool.false_eq_true, if_false] at hk
  obtain ⟨x, gx⟩ : ∃ x, getN d.now p = some x := by
    unfold fileD at e2'
    cases hg : getN d.now p with
    | none => rw [hg] at e2'; cases e2'
    | some x => exact ⟨x, rfl⟩
  have hxd : x.dir = false := by
    unfold fileD at e2'
    rw [gx] at e2'
    cases hxd : x.dir
    · rfl
    · simp [hxd] at e2'
  rw [gx] at hk
  simp only at hk
  have hnd : ndO (some x) = .ag [B false, I x.id] := by simp [dirO, hxd, idO]
  have hor : (getN d.now q).isSome = false ∨ ((getN d.now q).isSome = true ∧ dirO (getN d.now q) = false) := by
    cases h1 : (getN d.now q).isSome
    · exact .inl rfl
    · rw [h1] at e4; exact .inr ⟨rfl, e4⟩
  rcases hor with h1 | ⟨h1, h2⟩
  all_goals
    rw [h1]
    try rw [h2]
    repeat (refine gk dkU ?_)
    refine r_calm rfl (lkc_ev hD4.no hw.now_sn rfl rfl) ?_
    rw [gx, hnd]
    repeat (refine gk dkU ?_)
    refine r_allocH fun cx hcx => ?_
    have fn1 : Fr [] X4 (X4.upd cx (some (.obj [.v (.bool false), .v (.int .i64 0)]))) := Fr.new hcx
    generalize hX5 : X4.upd cx (some (.obj [.v (.bool false), .v (.int .i64 0)])) = X5 at fn1
    have xa : X5 cx = some (.obj [.v (.bool false), .v (.int .i64 0)]) := by rw [← hX5, Heap.upd_same]
    repeat (refine gk dkU ?_)
    refine sxk dkU ?_
    intro X6 x6 f6
    have f7 : Fr [] X4 (X6.upd cx none) := (fn1.own hcx f6).give hcx
    refine r_nil (n_n (s_v (vs_rp (t := 13) rfl x6) ?_))
    generalize X6.upd cx none = X7 at f7
    have y3 := f7.get (by simp) x3c
    have y4 := f7.get (by simp) x4c
    have y5 := f7.get (by simp) x5c
    have hD7 := hD4.fr0 f7
    repeat (refine gk dkU ?_)
    (apply r_call; (focus rfl))
    refine step_spec L b h d (d.chg (.mv x (getN d.now q) q)) (by omega) hw.fa hw.wr rfl _ X7 hD7 (fun ops fails wrong down X hX oX K1 hk1 => ?_) _ fun Y h' hY oY => ?_
    · refine cv_fn ?_
      have z3 := oX.get n3 y3
      have z4 := oX.get n4 y4
      have z5 := oX.get n5 y5
      have hxp : x.path = p := (getN_mem gx).2
      refine go_spec L code351 rfl ?_
      repeat (refine gk dkU ?_)
      (apply r_call; (focus rfl))
      refine Spec.args (args' := [ptr b, chgV (.mv x (getN d.now q) q)]) ⟨Weak.refl _, Weak.ag (bs := [.sl .no 1 [S x.path, S q], .sl .no 1 [.v (.pointer none), .rp [B false, I x.id]]]) ⟨by rw [hxp]; exact Weak.drop _ _ _, Weak.drop _ _ _, trivial⟩ rfl, trivial⟩ ?_
      refine drename_spec L b h (d.ctr ops fails wrong down) (.mv x (getN d.now q) q) hw.now_sn (mv_ok hw q) (by show d.loose.length < _; omega) X hX _ fun Y hY oY => ?_
      repeat (refine gk dkU ?_)
      exact resK_some (hk1 Y h _ hY oY)
    · repeat (refine gk dkU ?_)
      exact resK_some (hk Y h' hY ((Own.of _ (fa.trans f7)).trans oY))
end Sm

set_option linter.unusedVariables false
set_option linter.unusedSimpArgs false
set_option maxRecDepth 10000
set_option maxHeartbeats 1000000
namespace Sm
open Go
-- BASE dkU
attribute [local irreducible] csem rsem dsem seqK blockK normK finK DK RK JK BR G3 resK Spec Tok Fr CV

theorem dsyncdirs_spec (L : Linked code) (b : Nat) (h : Hd) (d : Dk) (n m : Nat) (hw : d.WF n m) (hn : n < 1048576) (H : Heap) (hD : KD H b h d)
    (K) (hk : ∀ Y h', KD Y b h' d.syncDirs.1 → Own H Y (h.bs b) (h'.bs b) → K (I d.syncDirs.2) Y) : Spec L.P L.ν 304 [ptr b] H K := by
  unfold Dk.syncDirs at hk
  have hop := hw.op
  refine go_spec L code304 rfl ?_
  repeat (refine gk dkU ?_)
  refine bxk dkU ?_
  intro c1 X1 h1 x1 f1 _
  have n1 := hD.new h1
  have hD1 := hD.fr0 f1
  repeat (refine gk dkU ?_)
  (apply r_call; (focus rfl))
  refine asked0_spec L b h d X1 hD1 _ fun X2 f2 => ?_
  have fa := f1.trans f2
  have hD2 := hD.fr0 fa
  have x1' := f2.get (by simp) x1
  cases c1' : d.down
  case true =>
    rw [if_pos c1'] at hk
    repeat (refine gk dkU ?_)
    exact resK_some (hk X2 h hD2 (Own.of _ fa))
  rw [if_neg (by simp [c1'])] at hk
  simp only [Bool.false_eq_true, if_false]
  repeat (refine gk dkU ?_)
  (apply r_call; (focus rfl))
  refine step_spec L b h d { d with sure := d.now, loose := [] } (by omega) hw.fa hw.wr rfl _ X2 hD2 (fun ops fails wrong down X hX oX K1 hk1 => ?_) _ fun Y h' hY oY => ?_
  · refine cv_fn ?_
    have y1 := oX.get n1 x1'
    have ob := hX.ob
    have hnd := hX.nd
    simp only [Hd.bs, List.nodup_cons, List.mem_cons, not_or] at hnd
    obtain ⟨⟨q1, q2, q3⟩, ⟨q4, q5⟩, q6, q7⟩ := hnd
    refine go_spec L code344 rfl ?_
    repeat (refine gk dkU ?_)
    (apply r_call; (focus rfl))
    refine mclone_spec L h.mn d.now X hX.no _ fun m' X1' hm' hM' g1 => ?_
    have y1' := g1.get (by simp) y1
    have ob' := g1.get (by simp) ob
    have nm := hX.new hm'
    simp only [Hd.bs, List.mem_cons, not_or] at nm
    have n1b : c1 ≠ b := fun e => n1 (by simp [Hd.bs, e])
    repeat (refine gk dkU ?_)
    refine sxk dkU ?_
    intro X3 x3 f3
    have y1'' := f3.get (by simpa using n1b) y1'
    repeat (refine gk dkU ?_)
    refine sxk dkU ?_
    intro X4 x4 f4
    have fX : Fr [b] X X4 := ((g1.mono (by simp)).trans f3).trans f4
    have fX1 : Fr [b] X1' X4 := f3.trans f4
    refine r_nil (dk_nil (d_nil (n_n (f_n rfl (resK_sub (h' := .tu []) (Weak.refl _) (sub_upd (cs := [I d.room, .v (.map (some m')), .v (.map (some h.mn)), .sl .no 2 [], h.fv, B down, I ops, I fails, B d.done, I wrong]) x4 ⟨Weak.refl _, Weak.refl _, Weak.refl _, Weak.nil' 2, Weak.refl _, Weak.refl _, Weak.refl _, Weak.refl _, Weak.refl _, Weak.refl _, trivial⟩ ?_) (hk1 _ ⟨m', h.mn, h.fv⟩ _ ?_ ?_))))))
    · have := fs_one hX.fs
      simp only [List.all_cons, this]; rfl
    · generalize hZ : X4.upd b (some (.obj [I d.room, .v (.map (some m')), .v (.map (some h.mn)), .sl .no 2 [], h.fv, B down, I ops, I fails, B d.done, I wrong])) = Z
      have fZ : Fr [b] X Z := by rw [← hZ]; exact fX.trans (Fr.set (by simp))
      have fZ1 : Fr [b] X1' Z := by rw [← hZ]; exact fX1.trans (Fr.set (by simp))
      refine ⟨by rw [← hZ, Heap.upd_same]; rfl, hM'.fr fZ1 (by simpa using nm.1), hX.no.fr fZ (by simpa using fun e => q2 e.symm), hX.fs.fr fZ (fun a ha hm => by rw [List.mem_singleton] at hm; subst hm; exact q3 ha), ?_⟩
      simp only [Hd.bs, List.nodup_cons, List.mem_cons, not_or]
      exact ⟨⟨fun e => nm.1 e.symm, q2, q3⟩, ⟨nm.2.2.1, nm.2.2.2⟩, q6, q7⟩
    · have o1 : Own X X1' (h.bs b) ((⟨m', h.mn, h.fv⟩ : Hd).bs b) := ⟨g1.mono (by simp), fun a ha => by
        simp only [Hd.bs, List.mem_cons] at ha ⊢
        rcases ha with rfl | rfl | rfl | ha
        · simp
        · exact .inr hm'
        · simp
        · simp [ha]⟩
      exact o1.trans (Own.set (cs := [b]) (fX1.trans (Fr.set (by simp))) (by simp [Hd.bs]))
  · repeat (refine gk dkU ?_)
    exact resK_some (hk Y h' hY ((Own.of _ fa).trans oY))
theorem dfail_spec (L : Linked code) (b : Nat) (h : Hd) (d : Dk) (k : Int) (done : Bool) (H : Heap) (hD : KD H b h d)
    (K) (hk : ∀ Y, KD Y b h (d.fail k done).1 → Own H Y (h.bs b) (h.bs b) → K (I (d.fail k done).2) Y) : Spec L.P L.ν 310 [ptr b, I k, B done] H K := by
  unfold Dk.fail at hk
  refine go_spec L code310 rfl ?_
  repeat (refine gk dkU ?_)
  (apply r_call; (focus rfl))
  refine asked0_spec L b h d H hD _ fun X2 f2 => ?_
  have hD2 := hD.fr0 f2
  have ob := hD2.ob
  cases c1' : d.down
  case true =>
    rw [c1'] at hk
    repeat (refine gk dkU ?_)
    exact resK_some (hk X2 hD2 (Own.of _ f2))
  rw [c1'] at hk ob
  simp only [Bool.false_eq_true, if_false] at hk ⊢
  repeat (refine gk dkU ?_)
  cases c2 : decide (k < 0)
  case true =>
    rw [if_pos (by simpa using c2)] at hk
    repeat (refine gk dkU ?_)
    exact resK_some (hk X2 hD2 (Own.of _ f2))
  rw [if_neg (by simpa using c2)] at hk
  repeat (refine gk dkU ?_)
  refine sxk dkU ?_
  intro X3 x3 f3
  repeat (refine gk dkU ?_)
  refine sxk dkU ?_
  intro X4 x4 f4
  have f34 := f3.trans f4
  repeat (refine gk dkU ?_)
  exact resK_some (hk X4 (hD2.cell f34 x4 rfl rfl rfl) ((Own.of _ f2).trans (Own.cell f34)))
theorem ddown_spec (L : Linked code) (b : Nat) (h : Hd) (d : Dk) (H : Heap) (hD : KD H b h d) (K) (hk : K (B d.down) H) : Spec L.P L.ν 314 [ptr b] H K := by
  have ob := hD.ob
  refine go_spec L code314 rfl ?_
  repeat (refine gk dkU ?_)
  exact resK_some hk
theorem file_id {d : Dk} {n m : Nat} (hw : d.WF n m) {p : List UInt8} (h : fileD d.now p = 0) : idD d.now p < d.f.length := by
  unfold fileD at h
  unfold idD
  cases hg : getN d.now p with
  | none => rw [hg] at h; cases h
  | some x =>
    rw [hg] at h
    simp only at h ⊢
    cases hxd : x.dir
    · exact (hw.now_ok x (getN_mem hg).1).2.1 hxd
    · rw [hxd] at h; cases h
theorem dsafe_spec (L : Linked code) (b : Nat) (h : Hd) (d : Dk) (p : List UInt8) (n m : Nat) (hw : d.WF n m) (H : Heap) (hD : KD H b h d) (K) (hk : K (I (d.safe p)) H) : Spec L.P L.ν 305 [ptr b, S p] H K := by
  unfold Dk.safe at hk
  refine go_spec L code305 rfl ?_
  repeat (refine gk dkU ?_)
  (apply r_call; (focus rfl))
  refine dfile_spec L b h d p hw.now_sn (fun x hx => (hw.now_ok x hx).2.1) H hD _ ?_
  cases e2 : (fileD d.now p != 0)
  case true =>
    have e2' : fileD d.now p ≠ 0 := by simpa using e2
    rw [if_pos e2'] at hk
    rw [if_neg e2']
    repeat (refine gk (And.intro dkU e2) ?_)
    exact resK_some hk
  have e2' : fileD d.now p = 0 := by simpa using e2
  rw [if_neg (by simp [e2'])] at hk
  rw [if_pos e2']
  have hi := file_id hw e2'
  obtain ⟨fb, c, zs, hfv, k1, k2⟩ := hD.row hi
  rw [getD_at hi] at hk
  rw [fpV_of hfv]
  repeat (refine gk (And.intro dkU e2) ?_)
  apply r_load; (focus rfl); (focus exact k1); (focus exact load_fl1 hi (by simp) zs)
  repeat (refine gk dkU ?_)
  exact resK_some hk
/-- Bytes that are one's own, as they come out of a disk. -/
theorem dread_spec (L : Linked code) (b : Nat) (h : Hd) (d : Dk) (p : List UInt8) (n m : Nat) (hw : d.WF n m) (hm : m ≤ 140737488355328) (H : Heap) (hD : KD H b h d) (K) (hk : ∀ v X, CB X v (d.read p).1 → Fr [] H X → (∀ a ∈ fvb v, H a = none) → K (.tu [v, I (d.read p).2]) X) : Spec L.P L.ν 300 [ptr b, S p] H K := by
  unfold Dk.read at hk
  refine go_spec L code300 rfl ?_
  repeat (refine gk dkU ?_)
  (apply r_call; (focus rfl))
  refine asked0_spec L b h d H hD _ fun X2 f2 => ?_
  have hD2 := hD.fr0 f2
  cases c1' : d.down
  case true =>
    rw [c1'] at hk
    simp only [if_true] at hk ⊢
    repeat (refine gk dkU ?_)
    exact resK_some (hk (.v (.slice none 0 0)) X2 (.inl ⟨rfl, rfl⟩) f2 (by simp [fvb]))
  rw [c1'] at hk
  simp only [Bool.false_eq_true, if_false] at hk ⊢
  repeat (refine gk dkU ?_)
  (apply r_call; (focus rfl))
  refine dfile_spec L b h d p hw.now_sn (fun x hx => (hw.now_ok x hx).2.1) X2 hD2 _ ?_
  cases e2 : (fileD d.now p != 0)
  case true =>
    have e2' : fileD d.now p ≠ 0 := by simpa using e2
    rw [if_pos e2'] at hk
    rw [if_neg e2']
    repeat (refine gk (And.intro dkU e2) ?_)
    exact resK_some (hk (.v (.slice none 0 0)) X2 (.inl ⟨rfl, rfl⟩) f2 (by simp [fvb]))
  have e2' : fileD d.now p = 0 := by simpa using e2
  rw [if_neg (by simp [e2'])] at hk
  rw [if_pos e2']
  have hi := file_id hw e2'
  obtain ⟨fb, c, zs, hfv, k1, k2⟩ := hD2.row hi
  rw [getD_at hi] at hk
  rw [fpV_of hfv]
  have hsz := hw.sz _ (List.getElem_mem hi)
  repeat (refine gk (And.intro dkU e2) ?_)
  apply r_load; (focus rfl); (focus exact k1); (focus exact load_fl0 hi (by simp) zs)
  repeat (refine gk dkU ?_)
  (apply r_call; (focus rfl))
  refine cloneC_spec L .no _ (by omega) X2 _ fun v X hc fX hn => ?_
  repeat (refine gk dkU ?_)
  exact resK_some (hk v X hc (f2.trans fX) fun a ha => f2.of_none (hn a ha))
theorem dnew_spec (L : Linked code) (k : Int) (H : Heap) (K) (hk : ∀ b h X, (∀ a ∈ h.bs b, H a = none) → KD X b h (newD k) → Fr [] H X → K (ptr b) X) : Spec L.P L.ν 294 [I k] H K := by
  refine go_spec L code294 rfl ?_
  repeat (refine gk dkU ?_)
  refine r_mop rfl fun m1 hm1 => ?_
  have h1 : MP (H.upd m1 (some (.mp [] 0))) m1 Nm.path ndV [] := MP.new
  have g1 : Fr [] H (H.upd m1 (some (.mp [] 0))) := Fr.new hm1
  generalize H.upd m1 (some (.mp [] 0)) = X1 at h1 g1
  repeat (refine gk dkU ?_)
  refine r_mop rfl fun m2 hm2 => ?_
  have h2 : MP (X1.upd m2 (some (.mp [] 0))) m2 Nm.path ndV [] := MP.new
  have g2 : Fr [] X1 (X1.upd m2 (some (.mp [] 0))) := Fr.new hm2
  have hm12 : m1 ≠ m2 := fun e => by obtain ⟨r, hr⟩ := h1.held; rw [e, hm2] at hr; cases hr
  generalize X1.upd m2 (some (.mp [] 0)) = X2 at h2 g2
  have h1' := h1.fr g2 (by simp)
  repeat (refine gk dkU ?_)
  refine bxk dkU ?_
  intro b X3 hb x3 f3 _
  have h1'' := h1'.fr f3 (by simp)
  have h2'' := h2.fr f3 (by simp)
  have hb1 : b ≠ m1 := fun e => by obtain ⟨r, hr⟩ := h1'.held; rw [← e, hb] at hr; cases hr
  have hb2 : b ≠ m2 := fun e => by obtain ⟨r, hr⟩ := h2.held; rw [← e, hb] at hr; cases hr
  have gH : Fr [] H X3 := (g1.trans g2).trans f3
  repeat (refine gk dkU ?_)
  refine resK_sub (h' := ptr b) (Weak.refl _) (sub_upd (cs := [I (newD k).room, .v (.map (some m1)), .v (.map (some m2)), .sl .no 2 [], .v (.slice none 0 0), B false, I 0, I (-1), B false, I (-1)]) x3 ⟨Weak.refl _, Weak.refl _, Weak.refl _, Weak.nil' 2, Weak.refl _, Weak.refl _, Weak.refl _, Weak.refl _, Weak.refl _, Weak.refl _, trivial⟩ rfl) (hk b ⟨m1, m2, .v (.slice none 0 0)⟩ _ ?_ ?_ ?_)
  · intro a ha
    simp only [Hd.bs, fvb, List.mem_cons, List.not_mem_nil, or_false] at ha
    rcases ha with rfl | rfl | rfl
    · exact (g1.trans g2).of_none hb
    · exact hm1
    · exact g1.of_none hm2
  · have fb : Fr [b] X3 (X3.upd b (some (.obj [I (newD k).room, .v (.map (some m1)), .v (.map (some m2)), .sl .no 2 [], .v (.slice none 0 0), B false, I 0, I (-1), B false, I (-1)]))) := Fr.set (by simp)
    refine ⟨Heap.upd_same _ _ _, ⟨[], List.Perm.refl _, h1''.fr fb (by simpa using hb1.symm)⟩, ⟨[], List.Perm.refl _, h2''.fr fb (by simpa using hb2.symm)⟩, .inl ⟨rfl, rfl⟩, ?_⟩
    simp [Hd.bs, fvb, hb1, hb2, hm12]
  · exact gH.own ((g1.trans g2).of_none hb) (Fr.set (by simp))
end Sm
