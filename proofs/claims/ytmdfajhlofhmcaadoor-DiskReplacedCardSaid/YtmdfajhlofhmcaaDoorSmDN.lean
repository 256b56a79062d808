/-
  A layer of one's own: texts D42,D43,D45,D46.
-/
import Derived.Test.YtmdfajhlofhmcaaDoorSmDM
set_option linter.unusedVariables false
set_option linter.unusedSimpArgs false
set_option maxHeartbeats 2000000
namespace Sm
open Go
/-- What a crash leaves of a file: all that is safe, and no more than there was. -/
def Kept (x y : Fl) : Prop := ∃ s, x.safe ≤ s ∧ s ≤ x.b.length ∧ y.b = x.b.take s
theorem crashF_kept : ∀ (l : List Nm) (f : List Fl) (keep : List UInt8) (i : Nat), (∀ x ∈ f, x.safe ≤ x.b.length) → (hi : i < f.length) → ∃ y, (crashF l f keep)[i]? = some y ∧ f[i].safe ≤ y.b.length ∧ (∃ s, y.b = f[i].b.take s) ∧ ((∃ n ∈ l, n.dir = false ∧ n.id = i) ∨ f[i].safe = f[i].b.length → y.safe = y.b.length) ∧ y.safe ≤ y.b.length
  | [], f, keep, i, hs, hi => ⟨f[i], by simp [crashF, hi], hs _ (List.getElem_mem hi), ⟨f[i].b.length, by simp⟩, by
      rintro (⟨n, hn, _⟩ | h)
      · cases hn
      · exact h, hs _ (List.getElem_mem hi)⟩
  | n :: l, f, keep, i, hs, hi => by
    rw [crashF]
    split
    · rename_i hd
      obtain ⟨y, h1, h2, h3, h4, h5⟩ := crashF_kept l f keep i hs hi
      refine ⟨y, h1, h2, h3, ?_, h5⟩
      rintro (⟨m, hm, hm2⟩ | h)
      · rcases List.mem_cons.mp hm with rfl | hm
        · rw [hm2.1] at hd; cases hd
        · exact h4 (.inl ⟨m, hm, hm2⟩)
      · exact h4 (.inr h)
    · rename_i hd
      have key : ∀ (s : Nat) (kp : List UInt8), (n.id < f.length → (f.getD n.id default).safe ≤ s ∧ s ≤ (f.getD n.id default).b.length) → ∃ y, (crashF l (f.set n.id ⟨(f.getD n.id default).b.take s, s⟩) kp)[i]? = some y ∧ f[i].safe ≤ y.b.length ∧ (∃ s, y.b = f[i].b.take s) ∧ ((∃ m ∈ n :: l, m.dir = false ∧ m.id = i) ∨ f[i].safe = f[i].b.length → y.safe = y.b.length) ∧ y.safe ≤ y.b.length := by
        intro s kp hs2
        have hs3 : ∀ x ∈ f.set n.id ⟨(f.getD n.id default).b.take s, s⟩, x.safe ≤ x.b.length := fun x hx => by
          by_cases hlt : n.id < f.length
          · rcases List.mem_or_eq_of_mem_set hx with hx | rfl
            · exact hs x hx
            · have := hs2 hlt; simp only [List.length_take]; omega
          · rw [List.set_eq_of_length_le (by omega)] at hx; exact hs x hx
        have hi2 : i < (f.set n.id ⟨(f.getD n.id default).b.take s, s⟩).length := by simpa using hi
        obtain ⟨y, h1, h2, h3, h4, h5⟩ := crashF_kept l _ kp i hs3 hi2
        refine ⟨y, h1, ?_⟩
        by_cases hni : n.id = i
        · subst hni
          have hg : f.getD n.id default = f[n.id] := by simp [hi]
          have e : (f.set n.id ⟨(f.getD n.id default).b.take s, s⟩)[n.id] = ⟨f[n.id].b.take s, s⟩ := by rw [List.getElem_set_self, hg]
          obtain ⟨k1, k2⟩ := hs2 hi
          rw [hg] at k1 k2
          rw [e] at h2 h3 h4
          obtain ⟨t, ht⟩ := h3
          refine ⟨by simp only at h2; omega, ⟨min t s, by rw [ht]; simp [List.take_take]⟩, fun _ => h4 (.inr (by simp only [List.length_take]; omega)), h5⟩
        · have e : (f.set n.id ⟨(f.getD n.id default).b.take s, s⟩)[i] = f[i] := by simp [hni]
          rw [e] at h2 h3 h4
          refine ⟨h2, h3, ?_, h5⟩
          rintro (⟨m, hm, hm2⟩ | h)
          · rcases List.mem_cons.mp hm with rfl | hm
            · exact absurd hm2.2 hni
            · exact h4 (.inl ⟨m, hm, hm2⟩)
          · exact h4 (.inr h)
      have hsafe : n.id < f.length → (f.getD n.id default).safe ≤ (f.getD n.id default).b.length := fun h => by
        have := hs _ (List.getElem_mem h); simpa [h] using this
      simp only
      split
      · refine key _ _ fun h => ?_
        have h1 := hsafe h
        have := Nat.mod_lt (keep.headD 0).toNat (show (f.getD n.id default).b.length - (f.getD n.id default).safe + 1 > 0 by omega)
        omega
      · exact key _ _ fun h => ⟨Nat.le_refl _, hsafe h⟩
end Sm

set_option linter.unusedVariables false
set_option linter.unusedSimpArgs false
set_option maxHeartbeats 2000000
namespace Sm
open Go
def zz : List UInt8 := [122, 122]
/-- Nothing is to go wrong. -/
structure Quie (d : Dk) : Prop where
  fa : d.fails = -1
  wr : d.wrong = -1
  dn : d.down = false
/-- zz is a file. -/
structure Zs (d : Dk) (n m t i : Nat) (x : Fl) : Prop where
  wf : d.WF n m
  tr : d.Tr
  cl : Quie d
  rm : d.room = 100000
  tt : tot d.f ≤ t
  nm : ∃ y, getN d.now zz = some y ∧ y.dir = false ∧ y.id = i
  fx : d.f[i]? = some x
theorem Zs.file {d : Dk} {n m t i : Nat} {x : Fl} (h : Zs d n m t i x) : fileD d.now zz = 0 ∧ idD d.now zz = i ∧ d.f.getD i default = x ∧ i < d.f.length := by
  obtain ⟨y, h1, h2, h3⟩ := h.nm
  refine ⟨by unfold fileD; rw [h1]; simp [h2], by unfold idD; rw [h1]; exact h3, by simp [h.fx], ?_⟩
  exact (List.getElem?_eq_some_iff.mp h.fx).1
end Sm

set_option linter.unusedVariables false
set_option linter.unusedSimpArgs false
set_option maxHeartbeats 2000000
namespace Sm
open Go
def pA : List UInt8 := [97]
def pT : List UInt8 := [116]
def nA : Nm := ⟨pA, false, 0⟩
def nT : Nm := ⟨pT, false, 1⟩
def nB : Nm := ⟨pA, false, 1⟩
def y1 : Dk := ((newD 10000).put pA false).1
def y2 (old : List UInt8) : Dk := (y1.append pA old).1
def y3 (old : List UInt8) : Dk := ((y2 old).sync pA).1
def y4 (old : List UInt8) : Dk := (y3 old).syncDirs.1
theorem y1_eq : (newD 10000).put pA false = (⟨10000, [], [.mk nA], [⟨[], 0⟩], false, 1, -1, false, -1⟩, 0) := rfl
theorem y2_eq {old : List UInt8} (h : old.length ≤ 500) : y1.append pA old = (⟨10000, [], [.mk nA], [⟨old, 0⟩], false, 2, -1, false, -1⟩, 0) := by
  have e1 : y1 = ⟨10000, [], [.mk nA], [⟨[], 0⟩], false, 1, -1, false, -1⟩ := congrArg Prod.fst y1_eq
  rw [e1]
  unfold Dk.append Dk.with'
  have hu : (⟨10000, [], [.mk nA], [⟨[], 0⟩], false, 1, -1, false, -1⟩ : Dk).used = 0 := by decide
  rw [if_neg (by decide), if_neg (by decide), hu, if_neg (by simp only; rw [if_neg (by omega)]; decide)]
  rfl
theorem y3_eq {old : List UInt8} (h : old.length ≤ 500) : (y2 old).sync pA = (⟨10000, [], [.mk nA], [⟨old, old.length⟩], false, 3, -1, false, -1⟩, 0) := by
  have e1 : y2 old = ⟨10000, [], [.mk nA], [⟨old, 0⟩], false, 2, -1, false, -1⟩ := congrArg Prod.fst (y2_eq h)
  rw [e1]
  rfl
theorem y4_eq {old : List UInt8} (h : old.length ≤ 500) : (y3 old).syncDirs = (⟨10000, [nA], [], [⟨old, old.length⟩], false, 4, -1, false, -1⟩, 0) := by
  have e1 : y3 old = ⟨10000, [], [.mk nA], [⟨old, old.length⟩], false, 3, -1, false, -1⟩ := congrArg Prod.fst (y3_eq h)
  rw [e1]
  rfl
/-- Which names and files there are. -/
structure Cls (d : Dk) (s : List Nm) (l : List Chg) (f : List Fl) : Prop where
  su : d.sure = s
  lo : d.loose = l
  fl : d.f = f
  wr : d.wrong = -1
  rm : d.room = 10000
theorem step_np {d next : Dk} (hw : d.wrong = -1) (hr : d.room = 10000) (hnr : next.room = 10000) :
    Cls (d.step next).1 next.sure next.loose next.f ∨ (Cls (d.step next).1 d.sure d.loose d.f ∧ (d.step next).1.down = true) := by
  unfold Dk.step
  rw [hw]
  split
  · split
    · exact .inl ⟨rfl, rfl, rfl, rfl, hnr⟩
    · exact .inr ⟨⟨rfl, rfl, rfl, rfl, hr⟩, rfl⟩
  · rw [if_neg (by decide)]
    exact .inl ⟨rfl, rfl, rfl, rfl, hnr⟩
theorem down_asked {d : Dk} (h : d.down = true) (p : List UInt8) : d.asked p ≠ 0 := by unfold Dk.asked; rw [if_pos h]; decide
theorem down_put {d : Dk} (h : d.down = true) (p : List UInt8) (b : Bool) : (d.put p b).1 = d := by unfold Dk.put; rw [if_pos (down_asked h p)]
theorem down_with {d : Dk} (h : d.down = true) (p : List UInt8) (may : Fl → Int) (g : Fl → Fl) : (d.with' p may g).1 = d := by unfold Dk.with'; rw [if_pos (down_asked h p)]
theorem down_rename {d : Dk} (h : d.down = true) (p q : List UInt8) : (d.rename p q).1 = d := by unfold Dk.rename; rw [if_pos (down_asked h p)]
theorem down_dirs {d : Dk} (h : d.down = true) : d.syncDirs.1 = d := by unfold Dk.syncDirs; rw [if_pos h]
theorem up_asked {d : Dk} (h : d.down = false) {p : List UInt8} (hp : chkP p = 0) : ¬ d.asked p ≠ 0 := by unfold Dk.asked; rw [if_neg (by rw [h]; decide), hp]; decide
theorem cls_now {d : Dk} {s : List Nm} {l : List Chg} {f : List Fl} (h : Cls d s l f) : d.now = appAll s l := by show appAll d.sure d.loose = _; rw [h.su, h.lo]
/-- The new file comes. -/
theorem r_put {d : Dk} {fo : Fl} (h : Cls d [nA] [] [fo]) : Cls (d.put pT false).1 [nA] [.mk nT] [fo, ⟨[], 0⟩] ∨ (Cls (d.put pT false).1 [nA] [] [fo] ∧ (d.put pT false).1.down = true) := by
  cases hd : d.down
  · have hn : d.now = [nA] := cls_now h
    unfold Dk.put
    rw [if_neg (up_asked hd (by decide)), hn, if_neg (by decide), if_neg (by decide)]
    have := step_np (d := d) (next := Dk.chg { d with f := if false = true then d.f else d.f ++ [⟨[], 0⟩] } (.mk ⟨pT, false, if false = true then 0 else d.f.length⟩)) h.wr h.rm h.rm
    refine this.imp (fun k => ?_) (fun k => ⟨⟨k.1.su.trans h.su, k.1.lo.trans h.lo, k.1.fl.trans h.fl, k.1.wr, k.1.rm⟩, k.2⟩)
    have e1 : (Dk.chg { d with f := if false = true then d.f else d.f ++ [⟨[], 0⟩] } (.mk ⟨pT, false, if false = true then 0 else d.f.length⟩)).sure = [nA] := h.su
    have e2 : (Dk.chg { d with f := if false = true then d.f else d.f ++ [⟨[], 0⟩] } (.mk ⟨pT, false, if false = true then 0 else d.f.length⟩)).loose = [.mk nT] := by
      show d.loose ++ [Chg.mk ⟨pT, false, d.f.length⟩] = _
      rw [h.lo, h.fl]; rfl
    have e3 : (Dk.chg { d with f := if false = true then d.f else d.f ++ [⟨[], 0⟩] } (.mk ⟨pT, false, if false = true then 0 else d.f.length⟩)).f = [fo, ⟨[], 0⟩] := by
      show d.f ++ [⟨[], 0⟩] = _
      rw [h.fl]; rfl
    exact ⟨k.su.trans e1, k.lo.trans e2, k.fl.trans e3, k.wr, k.rm⟩
  · rw [down_put hd]; exact .inr ⟨h, hd⟩
/-- A call on the new file. -/
theorem r_with {d : Dk} {fo fn : Fl} (h : Cls d [nA] [.mk nT] [fo, fn]) (may : Fl → Int) (g : Fl → Fl) (hm : d.down = false → may fn = 0) :
    Cls (d.with' pT may g).1 [nA] [.mk nT] [fo, g fn] ∨ (Cls (d.with' pT may g).1 [nA] [.mk nT] [fo, fn] ∧ (d.with' pT may g).1.down = true) := by
  cases hd : d.down
  · have hn : d.now = [nA, nT] := cls_now h
    unfold Dk.with'
    have e0 : idD [nA, nT] pT = 1 := by decide
    rw [if_neg (up_asked hd (by decide)), hn, if_neg (by decide), e0]
    have e1 : d.f.getD 1 default = fn := by rw [h.fl]; rfl
    rw [e1, if_neg (by rw [hm hd]; decide)]
    have := step_np (d := d) (next := { d with f := d.f.set 1 (g fn) }) h.wr h.rm h.rm
    refine this.imp (fun k => ?_) (fun k => ?_)
    · have e3 : ({ d with f := d.f.set 1 (g fn) } : Dk).f = [fo, g fn] := by show d.f.set 1 (g fn) = _; rw [h.fl]; rfl
      exact ⟨k.su.trans h.su, k.lo.trans h.lo, k.fl.trans e3, k.wr, k.rm⟩
    · exact ⟨⟨k.1.su.trans h.su, k.1.lo.trans h.lo, k.1.fl.trans h.fl, k.1.wr, k.1.rm⟩, k.2⟩
  · rw [down_with hd]; exact .inr ⟨h, hd⟩
theorem r_ren {d : Dk} {fo fn : Fl} (h : Cls d [nA] [.mk nT] [fo, fn]) : Cls (d.rename pT pA).1 [nA] [.mk nT, .mv nT (some nA) pA] [fo, fn] ∨ (Cls (d.rename pT pA).1 [nA] [.mk nT] [fo, fn] ∧ (d.rename pT pA).1.down = true) := by
  cases hd : d.down
  · have hn : d.now = [nA, nT] := cls_now h
    have e1 : getN [nA, nT] pT = some nT := by decide
    have e2 : getN [nA, nT] pA = some nA := by decide
    unfold Dk.rename
    rw [if_neg (up_asked hd (by decide)), hn, if_neg (by decide), if_neg (by decide), if_neg (by decide), if_neg (by decide), e1, e2]
    have := step_np (d := d) (next := d.chg (.mv nT (some nA) pA)) h.wr h.rm h.rm
    refine this.imp (fun k => ?_) (fun k => ?_)
    · have e3 : (d.chg (.mv nT (some nA) pA)).loose = [.mk nT, .mv nT (some nA) pA] := by show d.loose ++ _ = _; rw [h.lo]; rfl
      exact ⟨k.su.trans h.su, k.lo.trans e3, k.fl.trans h.fl, k.wr, k.rm⟩
    · exact ⟨⟨k.1.su.trans h.su, k.1.lo.trans h.lo, k.1.fl.trans h.fl, k.1.wr, k.1.rm⟩, k.2⟩
  · rw [down_rename hd]; exact .inr ⟨h, hd⟩
theorem r_dirs {d : Dk} {fo fn : Fl} (h : Cls d [nA] [.mk nT, .mv nT (some nA) pA] [fo, fn]) : Cls d.syncDirs.1 [nB] [] [fo, fn] ∨ Cls d.syncDirs.1 [nA] [.mk nT, .mv nT (some nA) pA] [fo, fn] := by
  cases hd : d.down
  · have hn : d.now = [nB] := (cls_now h).trans (by decide)
    unfold Dk.syncDirs
    rw [if_neg (by rw [hd]; decide)]
    have := step_np (d := d) (next := { d with sure := d.now, loose := [] }) h.wr h.rm h.rm
    refine this.imp (fun k => ?_) (fun k => ?_)
    · exact ⟨k.su.trans hn, k.lo, k.fl.trans h.fl, k.wr, k.rm⟩
    · exact ⟨k.1.su.trans h.su, k.1.lo.trans h.lo, k.1.fl.trans h.fl, k.1.wr, k.1.rm⟩
  · rw [down_dirs hd]; exact .inr h
/-- What is safe, whole, is read behind a crash. -/
theorem crash_read {d : Dk} {s : List Nm} {lo : List Chg} {f : List Fl} {c : Int} {k : List UInt8} (h : Cls d s lo f) (hs : ∀ x ∈ f, x.safe ≤ x.b.length) {i : Nat} {b : List UInt8} {n : Nm}
    (hg : getN (appAll s (lo.take (max 0 (min c lo.length)).toNat)) pA = some n) (hn : n.dir = false ∧ n.id = i) (hf : f[i]? = some ⟨b, b.length⟩) : (d.crash c k).read pA = (b, 0) := by
  have hnow : (d.crash c k).now = appAll s (lo.take (max 0 (min c lo.length)).toNat) := by
    show appAll (appAll d.sure (d.loose.take (max 0 (min c d.loose.length)).toNat)) [] = _
    rw [h.su, h.lo]; rfl
  have hfl : (d.crash c k).f = crashF (appAll s (lo.take (max 0 (min c lo.length)).toNat)) f k := by
    show crashF (appAll d.sure (d.loose.take (max 0 (min c d.loose.length)).toNat)) d.f k = _
    rw [h.su, h.lo, h.fl]
  have hlt := (List.getElem?_eq_some_iff.mp hf).1
  obtain ⟨z, z1, z2, ⟨t, z3⟩, z4, z5⟩ := crashF_kept (appAll s (lo.take (max 0 (min c lo.length)).toNat)) f k i hs hlt
  have he : f[i] = ⟨b, b.length⟩ := by rw [List.getElem?_eq_getElem hlt, Option.some.injEq] at hf; exact hf
  rw [he] at z2 z3
  simp only at z2 z3
  have hzb : z.b = b := by
    rw [z3] at z2 ⊢
    rw [List.length_take] at z2
    exact List.take_of_length_le (by omega)
  have hfd : fileD (d.crash c k).now pA = 0 := by rw [hnow]; unfold fileD; rw [hg]; simp [hn.1]
  have hid : idD (d.crash c k).now pA = i := by rw [hnow]; unfold idD; rw [hg]; exact hn.2
  have hgd : (d.crash c k).f.getD i default = z := by rw [hfl]; simp [z1]
  unfold Dk.read
  have hdn : (d.crash c k).down = false := rfl
  rw [if_neg (by rw [hdn]; decide), if_neg (by rw [hfd]; decide), hid, hgd, hzb]
end Sm

set_option linter.unusedVariables false
set_option linter.unusedSimpArgs false
set_option maxHeartbeats 2000000
namespace Sm
open Go
section
variable {old fresh : List UInt8} {d : Dk} {c : Int} {k : List UInt8}
theorem fin0 (h : Cls d [nA] [] [⟨old, old.length⟩]) : (d.crash c k).read pA = (old, 0) :=
  crash_read h (by simp) (i := 0) (n := nA) (by rw [List.take_nil]; decide) ⟨rfl, rfl⟩ rfl
theorem fin1 {x : Fl} (hx : x.safe ≤ x.b.length) (h : Cls d [nA] [.mk nT] [⟨old, old.length⟩, x]) : (d.crash c k).read pA = (old, 0) := by
  refine crash_read h (fun y hy => ?_) (i := 0) (n := nA) ?_ ⟨rfl, rfl⟩ rfl
  · simp only [List.mem_cons, List.not_mem_nil, or_false] at hy
    rcases hy with rfl | rfl
    · exact Nat.le_refl _
    · exact hx
  · generalize (max 0 (min c (([Chg.mk nT] : List Chg).length : Int))).toNat = j
    cases j with
    | zero => rfl
    | succ j => rw [List.take_succ_cons, List.take_nil]; decide
theorem fin4 (h : Cls d [nA] [.mk nT, .mv nT (some nA) pA] [⟨old, old.length⟩, ⟨fresh, fresh.length⟩]) : (d.crash c k).read pA = (old, 0) ∨ (d.crash c k).read pA = (fresh, 0) := by
  have hs : ∀ y ∈ ([⟨old, old.length⟩, ⟨fresh, fresh.length⟩] : List Fl), y.safe ≤ y.b.length := fun y hy => by
    simp only [List.mem_cons, List.not_mem_nil, or_false] at hy
    rcases hy with rfl | rfl <;> exact Nat.le_refl _
  have h0 := fun (n : Nm) (i : Nat) (b : List UInt8) => crash_read (c := c) (k := k) h hs (i := i) (b := b) (n := n)
  generalize (max 0 (min c (([Chg.mk nT, .mv nT (some nA) pA] : List Chg).length : Int))).toNat = j at h0
  rcases j with _ | _ | j
  · exact .inl (h0 nA 0 old rfl ⟨rfl, rfl⟩ rfl)
  · exact .inl (h0 nA 0 old (by rw [List.take_succ_cons]; decide) ⟨rfl, rfl⟩ rfl)
  · exact .inr (h0 nB 1 fresh (by rw [List.take_succ_cons, List.take_succ_cons, List.take_nil]; decide) ⟨rfl, rfl⟩ rfl)
theorem fin5 (h : Cls d [nB] [] [⟨old, old.length⟩, ⟨fresh, fresh.length⟩]) : (d.crash c k).read pA = (fresh, 0) := by
  refine crash_read h (fun y hy => ?_) (i := 1) (n := nB) (by rw [List.take_nil]; decide) ⟨rfl, rfl⟩ rfl
  simp only [List.mem_cons, List.not_mem_nil, or_false] at hy
  rcases hy with rfl | rfl <;> exact Nat.le_refl _
end
/-- Where things stand ahead of the renaming. -/
structure Mid (d : Dk) (old fresh : List UInt8) : Prop where
  st : (Cls d [nA] [] [⟨old, old.length⟩] ∧ d.down = true) ∨ ∃ x : Fl, (x = ⟨[], 0⟩ ∨ x = ⟨fresh, 0⟩ ∨ x = ⟨fresh, fresh.length⟩) ∧ Cls d [nA] [.mk nT] [⟨old, old.length⟩, x]
theorem mid {d : Dk} {old fresh : List UInt8} (h : Cls d [nA] [] [⟨old, old.length⟩]) (ho : old.length ≤ 500) (hf : fresh.length ≤ 500) : Mid ((((d.put pT false).1.append pT fresh).1.sync pT).1) old fresh := by
  rcases r_put h with h1 | ⟨h1, hd⟩
  · have hm : (d.put pT false).1.down = false → (fun _ : Fl => if (d.put pT false).1.room - ((d.put pT false).1.used : Int) < fresh.length then (10 : Int) else 0) ⟨[], 0⟩ = 0 := fun _ => by
      have hu : (d.put pT false).1.used = old.length := by
        show ((d.put pT false).1.now.map fun n => if n.dir then 0 else ((d.put pT false).1.f.getD n.id default).b.length).sum = _
        rw [cls_now h1, h1.fl]
        show ([nA, nT].map fun n : Nm => if n.dir then 0 else (([⟨old, old.length⟩, ⟨[], 0⟩] : List Fl).getD n.id default).b.length).sum = _
        simp [nA, nT]
      simp only
      rw [hu, h1.rm, if_neg (by omega)]
    rcases r_with h1 (fun _ => if (d.put pT false).1.room - ((d.put pT false).1.used : Int) < fresh.length then (10 : Int) else 0) (fun f => ⟨f.b ++ fresh, f.safe⟩) hm with h2 | ⟨h2, hd2⟩
    · have h2' : Cls ((d.put pT false).1.append pT fresh).1 [nA] [.mk nT] [⟨old, old.length⟩, ⟨fresh, 0⟩] := h2
      rcases r_with h2' (fun _ => 0) (fun f => ⟨f.b, f.b.length⟩) (fun _ => rfl) with h3 | ⟨h3, hd3⟩
      · exact ⟨.inr ⟨_, .inr (.inr rfl), h3⟩⟩
      · exact ⟨.inr ⟨_, .inr (.inl rfl), h3⟩⟩
    · have h2' : Cls ((d.put pT false).1.append pT fresh).1 [nA] [.mk nT] [⟨old, old.length⟩, ⟨[], 0⟩] := h2
      have hd2' : ((d.put pT false).1.append pT fresh).1.down = true := hd2
      have e : (((d.put pT false).1.append pT fresh).1.sync pT).1 = ((d.put pT false).1.append pT fresh).1 := down_with hd2' _ _ _
      rw [e]
      exact ⟨.inr ⟨_, .inl rfl, h2'⟩⟩
  · have e1 : ((d.put pT false).1.append pT fresh).1 = (d.put pT false).1 := down_with hd _ _ _
    rw [e1]
    have e2 : ((d.put pT false).1.sync pT).1 = (d.put pT false).1 := down_with hd _ _ _
    rw [e2]
    exact ⟨.inl ⟨h1, hd⟩⟩
theorem Mid.keep {d : Dk} {old fresh : List UInt8} (h : Mid d old fresh) (c : Int) (k : List UInt8) : (d.crash c k).read pA = (old, 0) := by
  rcases h.st with ⟨h1, _⟩ | ⟨x, hx, h1⟩
  · exact fin0 h1
  · refine fin1 ?_ h1
    rcases hx with rfl | rfl | rfl
    · exact Nat.le_refl _
    · exact Nat.zero_le _
    · exact Nat.le_refl _
theorem Mid.goes {d : Dk} {old fresh : List UInt8} (h : Mid d old fresh) (hs : d.safe pT = fresh.length) (hd : d.down = false) (c : Int) (k : List UInt8) :
    ((d.rename pT pA).1.syncDirs.1.crash c k).read pA = (old, 0) ∨ ((d.rename pT pA).1.syncDirs.1.crash c k).read pA = (fresh, 0) := by
  rcases h.st with ⟨_, h1⟩ | ⟨x, hx, h1⟩
  · rw [hd] at h1; cases h1
  · have hsx : d.safe pT = x.safe := by
      unfold Dk.safe
      have hn : d.now = [nA, nT] := cls_now h1
      rw [hn, if_neg (by decide)]
      have e0 : idD [nA, nT] pT = 1 := by decide
      rw [e0, h1.fl]; rfl
    have hx2 : x = ⟨fresh, fresh.length⟩ := by
      rw [hsx] at hs
      rcases hx with rfl | rfl | rfl
      · have : fresh = [] := List.eq_nil_of_length_eq_zero hs.symm
        rw [this]; rfl
      · simp only at hs; rw [← hs]
      · rfl
    subst hx2
    rcases r_ren h1 with h2 | ⟨h2, hd2⟩
    · rcases r_dirs h2 with h3 | h3
      · exact .inr (fin5 h3)
      · exact fin4 h3
    · rw [down_dirs hd2]
      exact .inl (fin1 (Nat.le_refl _) h2)
end Sm
