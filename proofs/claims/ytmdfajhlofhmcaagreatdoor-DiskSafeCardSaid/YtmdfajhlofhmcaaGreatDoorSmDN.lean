/-
  A layer of one's own: texts D42,D43.
-/
import Derived.Test.YtmdfajhlofhmcaaGreatDoorSmDM
set_option linter.unusedVariables false
set_option linter.unusedSimpArgs false
set_option maxHeartbeats 2000000
namespace Sm
open Go
/-- What a crash leaves of a file: all that is safe, and no more than there was. -/
def Kept (x y : Fl) : Prop := ∃ s, x.safe ≤ s ∧ s ≤ x.b.length ∧ y.b = x.b.take s
theorem crashF_kept : ∀ (l : List Nm) (f : List Fl) (keep : List UInt8) (i : Nat), (∀ x ∈ f, x.safe ≤ x.b.length) → (hi : i < f.length) → ∃ y, (crashF l f keep)[i]? = some y ∧ f[i].safe ≤ y.b.length ∧ (∃ s, y.b = f[i].b.take s) ∧ ((∃ n ∈ l, n.dir = false ∧ n.id = i) ∨ f[i].safe = f[i].b.length → y.safe = y.b.length) ∧ y.safe ≤ y.b.length
  | [], f, keep, i, hs, hi => ⟨f[i], by simp [crashF, hi], hs _ (List.getElem_mem hi), ⟨f[i].b.length, by simp⟩, by
      rintro (⟨n, hn, _⟩ | h)
      · cases hn
      · exact h, hs _ (List.getElem_mem hi)⟩
  | n :: l, f, keep, i, hs, hi => by
    rw [crashF]
    split
    · rename_i hd
      obtain ⟨y, h1, h2, h3, h4, h5⟩ := crashF_kept l f keep i hs hi
      refine ⟨y, h1, h2, h3, ?_, h5⟩
      rintro (⟨m, hm, hm2⟩ | h)
      · rcases List.mem_cons.mp hm with rfl | hm
        · rw [hm2.1] at hd; cases hd
        · exact h4 (.inl ⟨m, hm, hm2⟩)
      · exact h4 (.inr h)
    · rename_i hd
      have key : ∀ (s : Nat) (kp : List UInt8), (n.id < f.length → (f.getD n.id default).safe ≤ s ∧ s ≤ (f.getD n.id default).b.length) → ∃ y, (crashF l (f.set n.id ⟨(f.getD n.id default).b.take s, s⟩) kp)[i]? = some y ∧ f[i].safe ≤ y.b.length ∧ (∃ s, y.b = f[i].b.take s) ∧ ((∃ m ∈ n :: l, m.dir = false ∧ m.id = i) ∨ f[i].safe = f[i].b.length → y.safe = y.b.length) ∧ y.safe ≤ y.b.length := by
        intro s kp hs2
        have hs3 : ∀ x ∈ f.set n.id ⟨(f.getD n.id default).b.take s, s⟩, x.safe ≤ x.b.length := fun x hx => by
          by_cases hlt : n.id < f.length
          · rcases List.mem_or_eq_of_mem_set hx with hx | rfl
            · exact hs x hx
            · have := hs2 hlt; simp only [List.length_take]; omega
          · rw [List.set_eq_of_length_le (by omega)] at hx; exact hs x hx
        have hi2 : i < (f.set n.id ⟨(f.getD n.id default).b.take s, s⟩).length := by simpa using hi
        obtain ⟨y, h1, h2, h3, h4, h5⟩ := crashF_kept l _ kp i hs3 hi2
        refine ⟨y, h1, ?_⟩
        by_cases hni : n.id = i
        · subst hni
          have hg : f.getD n.id default = f[n.id] := by simp [hi]
          have e : (f.set n.id ⟨(f.getD n.id default).b.take s, s⟩)[n.id] = ⟨f[n.id].b.take s, s⟩ := by rw [List.getElem_set_self, hg]
          obtain ⟨k1, k2⟩ := hs2 hi
          rw [hg] at k1 k2
          rw [e] at h2 h3 h4
          obtain ⟨t, ht⟩ := h3
          refine ⟨by simp only at h2; omega, ⟨min t s, by rw [ht]; simp [List.take_take]⟩, fun _ => h4 (.inr (by simp only [List.length_take]; omega)), h5⟩
        · have e : (f.set n.id ⟨(f.getD n.id default).b.take s, s⟩)[i] = f[i] := by simp [hni]
          rw [e] at h2 h3 h4
          refine ⟨h2, h3, ?_, h5⟩
          rintro (⟨m, hm, hm2⟩ | h)
          · rcases List.mem_cons.mp hm with rfl | hm
            · exact absurd hm2.2 hni
            · exact h4 (.inl ⟨m, hm, hm2⟩)
          · exact h4 (.inr h)
      have hsafe : n.id < f.length → (f.getD n.id default).safe ≤ (f.getD n.id default).b.length := fun h => by
        have := hs _ (List.getElem_mem h); simpa [h] using this
      simp only
      split
      · refine key _ _ fun h => ?_
        have h1 := hsafe h
        have := Nat.mod_lt (keep.headD 0).toNat (show (f.getD n.id default).b.length - (f.getD n.id default).safe + 1 > 0 by omega)
        omega
      · exact key _ _ fun h => ⟨Nat.le_refl _, hsafe h⟩
end Sm

set_option linter.unusedVariables false
set_option linter.unusedSimpArgs false
set_option maxHeartbeats 2000000
namespace Sm
open Go
def zz : List UInt8 := [122, 122]
theorem zz_chk : chkP zz = 0 := by decide
theorem zz_par : parL zz = [] := by decide
/-- Nothing is to go wrong. -/
structure Quie (d : Dk) : Prop where
  fa : d.fails = -1
  wr : d.wrong = -1
  dn : d.down = false
theorem calm_step {d next : Dk} (h : Quie d) (h2 : next.down = false) : ∃ e, d.step next = (e, 0) ∧ Quie e ∧ e.sure = next.sure ∧ e.loose = next.loose ∧ e.f = next.f ∧ e.room = next.room := by
  unfold Dk.step
  rw [if_neg (by rw [h.fa]; decide), if_neg (by rw [h.wr]; decide), h.fa, h.wr]
  exact ⟨_, rfl, ⟨rfl, rfl, h2⟩, rfl, rfl, rfl, rfl⟩
theorem crash_calm (d : Dk) (c : Int) (k : List UInt8) : Quie (d.crash c k) := ⟨rfl, rfl, rfl⟩
theorem calm_asked {d : Dk} (h : Quie d) : d.asked zz = 0 := by
  unfold Dk.asked; rw [h.dn, if_neg (by decide)]; exact zz_chk
/-- zz is a file. -/
structure Zs (d : Dk) (n m t i : Nat) (x : Fl) : Prop where
  wf : d.WF n m
  tr : d.Tr
  cl : Quie d
  rm : d.room = 100000
  tt : tot d.f ≤ t
  nm : ∃ y, getN d.now zz = some y ∧ y.dir = false ∧ y.id = i
  fx : d.f[i]? = some x
theorem Zs.file {d : Dk} {n m t i : Nat} {x : Fl} (h : Zs d n m t i x) : fileD d.now zz = 0 ∧ idD d.now zz = i ∧ d.f.getD i default = x ∧ i < d.f.length := by
  obtain ⟨y, h1, h2, h3⟩ := h.nm
  refine ⟨by unfold fileD; rw [h1]; simp [h2], by unfold idD; rw [h1]; exact h3, by simp [h.fx], ?_⟩
  exact (List.getElem?_eq_some_iff.mp h.fx).1
theorem zwith {d : Dk} {n m t i : Nat} {x : Fl} (h : Zs d n m t i x) {may : Fl → Int} {g : Fl → Fl} {n' m' t' : Nat} (hm : may x = 0) (hw : (d.with' zz may g).1.WF n' m') (ht : t + (g x).b.length ≤ t' + x.b.length) :
    (d.with' zz may g).2 = 0 ∧ Zs (d.with' zz may g).1 n' m' t' i (g x) := by
  obtain ⟨h1, h2, h3, h4⟩ := h.file
  have ht2 := with_tr h.tr zz may g
  have hx := h.fx
  rw [List.getElem?_eq_getElem h4, Option.some.injEq] at hx
  have htot := tot_set h4 (g x)
  rw [hx] at htot
  have htt := h.tt
  unfold Dk.with' at hw ht2 ⊢
  rw [if_neg (by rw [calm_asked h.cl]; decide), if_neg (by rw [h1]; decide), h2, h3, if_neg (by rw [hm]; decide)] at hw ht2 ⊢
  obtain ⟨e, e1, e2, e3, e4, e5, e6⟩ := calm_step (next := { d with f := d.f.set i (g x) }) h.cl h.cl.dn
  rw [e1] at hw ht2 ⊢
  have hnow : e.now = d.now := by show appAll e.sure e.loose = _; rw [e3, e4]; rfl
  refine ⟨rfl, ⟨hw, ht2, e2, e6.trans h.rm, ?_, by rw [hnow]; exact h.nm, ?_⟩⟩
  · rw [e5]; simp only; omega
  · rw [e5]; simp [h4]
theorem zcut {d : Dk} {n m t i : Nat} {x : Fl} (h : Zs d n m t i x) : (d.cut zz 0).2 = 0 ∧ Zs (d.cut zz 0).1 (n + 1) m t i ⟨[], 0⟩ := by
  have e : (⟨x.b.take (0 : Int).toNat, min (0 : Int).toNat x.safe⟩ : Fl) = ⟨[], 0⟩ := by simp
  have h1 := zwith h (may := fun f => if (0 : Int) < 0 ∨ (0 : Int) > f.b.length then 13 else 0) (g := fun f => ⟨f.b.take (0 : Int).toNat, min (0 : Int).toNat f.safe⟩) (t' := t) (by rw [if_neg (by omega)]) (cut_wf h.wf zz 0) (by simp)
  rw [e] at h1
  exact h1
theorem zapp {d : Dk} {n m t i : Nat} {x : Fl} (h : Zs d n m t i x) (b : List UInt8) (hb : t + b.length ≤ 100000) : (d.append zz b).2 = 0 ∧ Zs (d.append zz b).1 (n + 1) (m + b.length) (t + b.length) i ⟨x.b ++ b, x.safe⟩ := by
  have hu := used_tot h.wf h.tr
  have ht := h.tt
  exact zwith h (may := fun _ => if d.room - d.used < b.length then 10 else 0) (g := fun f => ⟨f.b ++ b, f.safe⟩) (t' := t + b.length) (by rw [h.rm, if_neg (by omega)]) (append_wf h.wf zz b) (by simp only [List.length_append]; omega)
theorem zsync {d : Dk} {n m t i : Nat} {x : Fl} (h : Zs d n m t i x) : (d.sync zz).2 = 0 ∧ Zs (d.sync zz).1 (n + 1) m t i ⟨x.b, x.b.length⟩ :=
  zwith h (may := fun _ => 0) (g := fun f => ⟨f.b, f.b.length⟩) rfl (sync_wf h.wf zz) (Nat.le_refl _)
theorem zdirs {d : Dk} {n m t i : Nat} {x : Fl} (h : Zs d n m t i x) : d.syncDirs.2 = 0 ∧ Zs d.syncDirs.1 (n + 1) m t i x ∧ d.syncDirs.1.loose = [] := by
  have hw := syncDirs_wf h.wf
  have ht := syncDirs_tr h.tr
  unfold Dk.syncDirs at hw ht ⊢
  rw [if_neg (by rw [h.cl.dn]; decide)] at hw ht ⊢
  obtain ⟨e, e1, e2, e3, e4, e5, e6⟩ := calm_step (next := { d with sure := d.now, loose := [] }) h.cl h.cl.dn
  rw [e1] at hw ht ⊢
  have hnow : e.now = d.now := by show appAll e.sure e.loose = _; rw [e3, e4]; rfl
  exact ⟨rfl, ⟨hw, ht, e2, e6.trans h.rm, by rw [e5]; exact h.tt, by rw [hnow]; exact h.nm, by rw [e5]; exact h.fx⟩, e4⟩
/-- zz comes anew. -/
theorem zput {d : Dk} {n m t : Nat} (hw : d.WF n m) (ht : d.Tr) (hc : Quie d) (hr : d.room = 100000) (htt : tot d.f ≤ t) (h0 : (d.put zz false).2 = 0 ∨ getN d.now zz = none) : (d.put zz false).2 = 0 ∧ ∃ i x, Zs (d.put zz false).1 (n + 1) m t i x := by
  have hw2 := put_wf hw zz false
  have ht2 := put_tr hw ht zz false
  have hp : parD d.now zz = 0 := by unfold parD; rw [if_pos zz_par]
  unfold Dk.put at hw2 ht2 h0 ⊢
  rw [if_neg (by rw [calm_asked hc]; decide), if_neg (by rw [hp]; decide)] at hw2 ht2 h0 ⊢
  have hn : (getN d.now zz).isSome = false := by
    rcases h0 with h0 | h0
    · cases hg : (getN d.now zz).isSome
      · rfl
      · rw [if_pos hg] at h0; cases h0
    · rw [h0]; rfl
  rw [if_neg (by rw [hn]; decide)] at hw2 ht2 ⊢
  simp only [Bool.false_eq_true, if_false] at hw2 ht2 ⊢
  obtain ⟨e, e1, e2, e3, e4, e5, e6⟩ := calm_step (next := Dk.chg { d with f := d.f ++ [⟨[], 0⟩] } (.mk ⟨zz, false, d.f.length⟩)) hc hc.dn
  rw [e1] at hw2 ht2 ⊢
  have hnow : e.now = appC d.now (.mk ⟨zz, false, d.f.length⟩) := by
    show appAll e.sure e.loose = _
    rw [e3, e4]; exact appAll_snoc _ _ _
  have hm : (⟨zz, false, d.f.length⟩ : Nm) ∈ e.now := by rw [hnow, appC_mem]; exact .inl (by simp [Chg.came])
  refine ⟨rfl, d.f.length, ⟨[], 0⟩, hw2, ht2, e2, e6.trans hr, ?_, ⟨_, getN_of hw2.now_sn.nd hm, rfl, rfl⟩, ?_⟩
  · rw [e5]; show tot (d.f ++ [⟨[], 0⟩]) ≤ t; rw [tot_app]; exact htt
  · rw [e5]; show (d.f ++ [⟨[], 0⟩])[d.f.length]? = _; simp
theorem zremove {d : Dk} (hc : Quie d) (h : (d.remove zz).2 ≠ 0) : (d.remove zz).1 = d := by
  unfold Dk.remove at h ⊢
  rw [if_neg (by rw [calm_asked hc]; decide)] at h ⊢
  split at h
  · rfl
  · split at h
    · rename_i hany; rw [if_pos hany]
    · rename_i x _ _
      obtain ⟨e, e1, _⟩ := calm_step (next := d.chg (.rm x)) hc hc.dn
      rw [e1] at h; exact absurd rfl h
theorem zremove0 {d : Dk} (hc : Quie d) (h : (d.remove zz).2 = 0) : Quie (d.remove zz).1 ∧ getN (d.remove zz).1.now zz = none ∧ (d.remove zz).1.f = d.f ∧ (d.remove zz).1.room = d.room := by
  unfold Dk.remove at h ⊢
  rw [if_neg (by rw [calm_asked hc]; decide)] at h ⊢
  cases hg : getN d.now zz with
  | none => rw [hg] at h; cases h
  | some x =>
    rw [hg] at h
    simp only at h ⊢
    split at h
    · cases h
    · rename_i hany
      rw [if_neg hany]
      obtain ⟨e, e1, e2, e3, e4, e5, e6⟩ := calm_step (next := d.chg (.rm x)) hc hc.dn
      rw [e1]
      refine ⟨e2, ?_, e5, e6⟩
      have hnow : e.now = appC d.now (.rm x) := by
        show appAll e.sure e.loose = _
        rw [e3, e4]; exact appAll_snoc _ _ _
      rw [hnow]
      refine List.find?_eq_none.mpr fun y hy => ?_
      rw [appC_mem] at hy
      simp only [Chg.came, List.not_mem_nil, false_or, goneN, Chg.gone, List.any_cons, List.any_nil, Bool.or_false, beq_eq_false_iff_ne, (getN_mem hg).2] at hy
      simpa using fun e => hy.2 e.symm
theorem zread {d : Dk} {n m t i : Nat} {x : Fl} (h : Zs d n m t i x) : d.read zz = (x.b, 0) ∧ d.safe zz = x.safe := by
  obtain ⟨h1, h2, h3, h4⟩ := h.file
  unfold Dk.read Dk.safe
  rw [if_neg (by rw [h.cl.dn]; decide), if_neg (by rw [h1]; decide), if_neg (by rw [h1]; decide), h2, h3]
  exact ⟨rfl, rfl⟩
theorem zread8 {d : Dk} (hc : Quie d) (h : getN d.now zz = none) : (d.read zz).2 = 8 := by
  unfold Dk.read
  have : fileD d.now zz = 8 := by unfold fileD; rw [h]
  rw [if_neg (by rw [hc.dn]; decide), if_pos (by rw [this]; decide), this]
theorem zcrash {d : Dk} {n m t i : Nat} {b r : List UInt8} (h : Zs d n m t i ⟨b ++ r, b.length⟩) (hl : d.loose = []) (c : Int) (k : List UInt8) :
    ((d.crash c k).read zz).2 = 0 ∧ b.length ≤ ((d.crash c k).read zz).1.length ∧ ((d.crash c k).read zz).1.take b.length = b ∧ (d.crash c k).safe zz = ((d.crash c k).read zz).1.length := by
  obtain ⟨y, g1, g2, g3⟩ := h.nm
  have hlt := h.file.2.2.2
  have hfx := h.fx
  rw [List.getElem?_eq_getElem hlt, Option.some.injEq] at hfx
  have hsure : (d.crash c k).now = d.now := by
    show appAll (appAll d.sure (d.loose.take _)) [] = _
    rw [hl, List.take_nil]
    show d.sure = appAll d.sure d.loose
    rw [hl]; rfl
  have hsu : (d.crash c k).f = crashF d.now d.f k := by
    show crashF (appAll d.sure (d.loose.take _)) d.f k = _
    rw [hl, List.take_nil]
    show crashF d.sure d.f k = crashF (appAll d.sure d.loose) d.f k
    rw [hl]; rfl
  obtain ⟨z, z1, z2, ⟨s, z3⟩, z4, z5⟩ := crashF_kept d.now d.f k i (fun x hx => (h.wf.sz x hx).2) hlt
  rw [hfx] at z2 z3 z4
  have z6 := z4 (.inl ⟨y, (getN_mem g1).1, g2, g3⟩)
  have hf : fileD (d.crash c k).now zz = 0 := by rw [hsure]; exact h.file.1
  have hi : idD (d.crash c k).now zz = i := by rw [hsure]; exact h.file.2.1
  have hg : (d.crash c k).f.getD i default = z := by rw [hsu]; simp [z1]
  have hr : (d.crash c k).read zz = (z.b, 0) := by
    unfold Dk.read
    rw [if_neg (show ¬ (d.crash c k).down = true from fun e => by rw [(crash_calm d c k).dn] at e; cases e), if_neg (by rw [hf]; decide), hi, hg]
  have hs : (d.crash c k).safe zz = z.safe := by
    unfold Dk.safe
    rw [if_neg (by rw [hf]; decide), hi, hg]
  rw [hr, hs]
  simp only at z2 z3 ⊢
  refine ⟨trivial, z2, ?_, z6⟩
  have hs2 : b.length ≤ s := by rw [z3, List.length_take] at z2; omega
  rw [z3, List.take_take, Nat.min_eq_left hs2, List.take_left]
end Sm
