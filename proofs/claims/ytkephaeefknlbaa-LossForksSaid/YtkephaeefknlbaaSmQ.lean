/-
  A layer of one's own: text Q.
-/
import Derived.Test.YtkephaeefknlbaaSmP
set_option linter.unusedVariables false
set_option linter.unusedSimpArgs false
set_option linter.unnecessarySimpa false
namespace Sm
open Go

/-- Every address of a private box that a slot holds is of one that is there. -/
def Live (e : Env) : Prop := ∀ t k o, e.sl t = some (.lp k o) → (e.bx k).isSome = true

def Opd.isS (d : Nat) : Opd → Bool
  | .s t => decide (t = d)
  | _ => false

def SOp.priv : SOp → Bool
  | .alloc (some _) _ => true
  | .box (some _) _ _ => true
  | _ => false
def SOp.early : SOp → Bool
  | .alloc (some _) _ => true
  | .box (some _) _ _ => true
  | .bslice _ _ => true
  | o => o.calm
def noStore (y : SOp) : Bool :=
  match y with
  | .store .. => false
  | _ => true
def SOp.isBs : SOp → Bool
  | .bslice .. => true
  | _ => false
/-- Operations behind which a read may tell something else. -/
def SOp.w3 : SOp → Bool
  | .call .. | .callv .. | .store .. => true
  | _ => false

/-- What an early operation makes: a private box, and its answer. -/
def SOp.fe (o : SOp) (e : Env) (H : Heap) : Option (Option (Nat × List HV) × EV) :=
  match o with
  | .alloc (some k) cs => if (e.box k).isNone then some (some (k, cs), .lp k 0) else none
  | .box (some k) n x => match e.hv x with
    | some h => if h.ncells = n ∧ h.el = true ∧ (e.box k).isNone = true then some (some (k, h.cells), .lp k 0) else none
    | none => none
  | .bslice sz ps => match e.hvs ps with
    | some hs => if hs.all HV.el = true ∧ (hs.all fun h => decide (h.ncells = sz)) = true then some (none, .h (.sl .full sz hs)) else none
    | none => none
  | .alloc none _ | .box none _ _ | .store .. | .app .. | .call .. | .callv .. | .nd .. => none
  | o => (o.ev e H).map fun x => (none, x)

def addb (kc : Option (Nat × List HV)) (e : Env) : Env :=
  match kc with
  | some (k, cs) => e.setb k cs
  | none => e

theorem step_early {S : SpecT} {o : SOp} (ho : o.early = true) {e : Env} {H : Heap} {K : EV → Env → Heap → Prop} : o.step S e H K ↔ ∃ p, o.fe e H = some p ∧ K p.2 (addb p.1 e) H := by
  cases o
  case alloc loc cs =>
    cases loc with
    | none => simp [SOp.early, SOp.calm] at ho
    | some k =>
      simp only [SOp.step, SOp.fe]
      constructor
      · rintro ⟨h1, h2⟩; exact ⟨_, by rw [if_pos (by simp [h1])], h2⟩
      · rintro ⟨p, h1, h2⟩
        split at h1
        · rename_i hn; simp only [Option.some.injEq] at h1; subst h1; exact ⟨by simpa using hn, h2⟩
        · cases h1
  case box loc n x =>
    cases loc with
    | none => simp [SOp.early, SOp.calm] at ho
    | some k =>
      simp only [SOp.step, SOp.fe]
      cases hx : e.hv x with
      | none => simp
      | some h =>
        simp only
        constructor
        · rintro ⟨h1, h2, h3, h4⟩; exact ⟨_, by rw [if_pos ⟨h1, h2, by simp [h3]⟩], h4⟩
        · rintro ⟨p, h1, h2⟩
          split at h1
          · rename_i hn; simp only [Option.some.injEq] at h1; subst h1; exact ⟨hn.1, hn.2.1, by simpa using hn.2.2, h2⟩
          · cases h1
  case bslice sz ps =>
    simp only [SOp.step, SOp.fe]
    cases hx : e.hvs ps with
    | none => simp
    | some hs =>
      simp only
      constructor
      · rintro ⟨h1, h2, h3⟩; exact ⟨_, by rw [if_pos ⟨h1, by simpa using h2⟩], h3⟩
      · rintro ⟨p, h1, h2⟩
        split at h1
        · rename_i hn; simp only [Option.some.injEq] at h1; subst h1; exact ⟨hn.1, by simpa using hn.2, h2⟩
        · cases h1
  case store => simp [SOp.early, SOp.calm] at ho
  case app => simp [SOp.early, SOp.calm] at ho
  case call => simp [SOp.early, SOp.calm] at ho
  case callv => simp [SOp.early, SOp.calm] at ho
  case nd => simp [SOp.early, SOp.calm] at ho
  all_goals
    simp only [SOp.step, SOp.fe]
    constructor
    · intro h
      split at h
      · rename_i x hx; exact ⟨(none, x), by rw [hx]; rfl, h⟩
      · exact h.elim
    · rintro ⟨p, h1, h2⟩
      obtain ⟨x, hx, rfl⟩ := Option.map_eq_some_iff.1 h1
      rw [hx]; exact h2

/-- The same of an operation with its guard. -/
def SOper.fe (x : SOper) (e : Env) (H : Heap) : Option (Option (Nat × List HV) × EV) :=
  match x.guard with
  | none => x.op.fe e H
  | some (t, want) => match e.get t with
    | some (.h (.v (.bool b))) => if b = want then x.op.fe e H else some (none, .h .undef)
    | some (.h (.v (.tuple _))) => some (none, .h .undef)
    | _ => none

theorem rsem1_early {S : SpecT} {x : SOper} (ho : x.op.early = true) {e : Env} {H : Heap} {K : Env → Heap → Prop} : rsem1 S x e H K ↔ ∃ p, x.fe e H = some p ∧ K ((addb p.1 e).put x.dst p.2) H := by
  unfold rsem1 SOper.fe
  cases hg : x.guard with
  | none => exact step_early ho
  | some q =>
    obtain ⟨t, want⟩ := q
    simp only
    cases hget : e.get t with
    | none => simp
    | some ev =>
      have bcase : ∀ b, ev = .h (.v (.bool b)) → (((b = want → x.op.step S (e.put (some t) (.h (.v (.bool want)))) H fun x_1 e' H' => K (e'.put x.dst x_1) H') ∧ (b = !want → K ((e.put (some t) (.h (.v (.bool (!want))))).put x.dst (.h .undef)) H)) ↔
          ∃ p, (if b = want then x.op.fe e H else some (none, EV.h .undef)) = some p ∧ K ((addb p.1 e).put x.dst p.2) H) := by
        rintro b rfl
        constructor
        · rintro ⟨h1, h2⟩
          by_cases hbw : b = want
          · subst hbw
            have h1 := h1 rfl
            rw [put_same hget] at h1
            obtain ⟨p, hp, hk⟩ := (step_early ho).1 h1
            exact ⟨p, by rw [if_pos rfl]; exact hp, hk⟩
          · have hbn : b = !want := by cases b <;> cases want <;> simp_all
            have h3 := h2 hbn
            subst hbn
            rw [put_same hget] at h3
            exact ⟨(none, .h .undef), by rw [if_neg hbw], h3⟩
        · rintro ⟨p, hp, hk⟩
          by_cases hbw : b = want
          · subst hbw
            rw [if_pos rfl] at hp
            refine ⟨fun _ => ?_, fun hn => by cases b <;> cases hn⟩
            rw [put_same hget]
            exact (step_early ho).2 ⟨p, hp, hk⟩
          · rw [if_neg hbw] at hp
            simp only [Option.some.injEq] at hp; subst hp
            have hbn : b = !want := by cases b <;> cases want <;> simp_all
            refine ⟨fun h => absurd h hbw, fun _ => ?_⟩
            subst hbn
            rw [put_same hget]
            exact hk
      cases ev with
      | lp k o => simp
      | h hv =>
        cases hv with
        | v u =>
          cases u
          case bool b => exact bcase b rfl
          all_goals simp [addb]
        | _ => simp

/-- What reads tell. -/
def loadEv (e : Env) (H : Heap) (agg : Bool) (n : Nat) (z : Opd) : Option EV := (SOp.load agg n z).ev e H

theorem opd_put {e : Env} {d : Option Nat} {v : EV} {z : Opd} (h : ∀ t, d = some t → z.isS t = false) : (e.put d v).opd z = e.opd z := by
  cases d with
  | none => rfl
  | some t =>
    have := h t rfl
    cases z with
    | s s =>
      simp only [Opd.isS, decide_eq_false_iff_not] at this
      simp only [Env.opd, Env.get, Env.put, upd]
      rw [if_neg (fun e => this e.symm)]
    | c v => rfl
    | f g => rfl
theorem opd_addb {e : Env} {kc : Option (Nat × List HV)} {z : Opd} : (addb kc e).opd z = e.opd z := by
  cases kc with
  | none => rfl
  | some p => rfl

/-- An operation does not see a slot that it does not read, nor (if it reads no box) a private box more. -/
theorem step_frame {S : SpecT} (hS : SMono S) (y : SOp) {e : Env} {H : Heap} {kc : Option (Nat × List HV)} {d : Option Nat} {v : EV} {K : EV → Env → Heap → Prop}
    (hd : ∀ t, d = some t → ∀ z ∈ y.opds, z.isS t = false) (hkc : kc.isSome = true → y.isLoad = false ∧ y.priv = false ∧ noStore y = true)
    (h : y.step S ((addb kc e).put d v) H K) :
    y.step S e H fun u e1 H1 => K u ((addb kc e1).put d v) H1 ∧ e1.sl = e.sl ∧ (y.priv = false → noStore y = true → e1.bx = e.bx) ∧
      (y.w3 = false → ∀ agg n z x, loadEv e H agg n z = some x → e1.opd z = e.opd z → loadEv e1 H1 agg n z = some x) := by
  have hop : ∀ z ∈ y.opds, ((addb kc e).put d v).opd z = e.opd z := fun z hz => (opd_put (fun t ht => hd t ht z hz)).trans opd_addb
  have hhv : ∀ z ∈ y.opds, ((addb kc e).put d v).hv z = e.hv z := fun z hz => hv_congr (hop z hz)
  have hbx : kc = none → ((addb kc e).put d v).bx = e.bx := by rintro rfl; cases d <;> rfl
  have hsetb : kc = none → ∀ k cs, (((addb kc e).put d v).setb k cs) = (addb kc (e.setb k cs)).put d v := by rintro rfl k cs; cases d <;> rfl
  have calm : ∀ o : SOp, o.opds = y.opds → (∀ z ∈ o.opds, ((addb kc e).put d v).opd z = e.opd z) → (o.isLoad = true → kc = none) → o.ev ((addb kc e).put d v) H = o.ev e H := by
    intro o _ h1 h2
    exact ev_congr o h1 (fun hl => ⟨hbx (h2 hl), rfl⟩)
  cases y
  case alloc loc cs =>
    cases loc with
    | some k =>
      have hk : kc = none := by
        cases kc with
        | none => rfl
        | some p => exact absurd (hkc rfl).2.1 (by simp [SOp.priv])
      subst hk
      simp only [SOp.step] at h ⊢
      obtain ⟨h1, h2⟩ := h
      have h1' : e.box k = none := by rw [← h1]; cases d <;> rfl
      refine ⟨h1', ?_, (by first | rfl | simp), (by simp [SOp.priv]), fun _ agg n z x hx hz => ?_⟩
      · rw [hsetb rfl] at h2; exact h2
      · simp only [loadEv, SOp.ev, hz] at hx ⊢
        split at hx
        · exact hx
        · exact hx
        · rename_i k' off _
          have hne : k ≠ k' := by rintro rfl; rw [h1'] at hx; cases hx
          simp only [Env.box, Env.setb, upd, if_neg hne] at hx ⊢
          exact hx
        · exact hx
    | none =>
      simp only [SOp.step] at h ⊢
      intro b hb
      refine ⟨h b hb, (by first | rfl | simp), (by simp [noStore]), fun _ agg n z x hx hz => ?_⟩
      simp only [loadEv, SOp.ev] at hx ⊢
      split at hx
      · rename_i b0 off h0
        split at hx
        · rename_i cs' hcs
          have : b0 ≠ b := by rintro rfl; rw [hb] at hcs; cases hcs
          simp only [Heap.upd, if_neg this, hcs]; exact hx
        · cases hx
      · exact hx
      · exact hx
      · exact hx
  case box loc n x0 =>
    have hx0 := hhv x0 (by simp [SOp.opds])
    simp only [SOp.step, hx0] at h ⊢
    split at h
    · rename_i h' hh
      obtain ⟨g1, g2, g3⟩ := h
      refine ⟨g1, g2, ?_⟩
      cases loc with
      | some k =>
        have hk : kc = none := by
          cases kc with
          | none => rfl
          | some p => exact absurd (hkc rfl).2.1 (by simp [SOp.priv])
        subst hk
        obtain ⟨h1, h2⟩ := g3
        have h1' : e.box k = none := by rw [← h1]; cases d <;> rfl
        refine ⟨h1', ?_, (by first | rfl | simp), (by simp [SOp.priv]), fun _ agg n z x hx hz => ?_⟩
        · rw [hsetb rfl] at h2; exact h2
        · simp only [loadEv, SOp.ev, hz] at hx ⊢
          split at hx
          · exact hx
          · exact hx
          · rename_i k' off _
            have hne : k ≠ k' := by rintro rfl; rw [h1'] at hx; cases hx
            simp only [Env.box, Env.setb, upd, if_neg hne] at hx ⊢
            exact hx
          · exact hx
      | none =>
        intro b hb
        refine ⟨g3 b hb, (by first | rfl | simp), (by simp [noStore]), fun _ agg n z x hx hz => ?_⟩
        simp only [loadEv, SOp.ev] at hx ⊢
        split at hx
        · rename_i b0 off h0
          split at hx
          · rename_i cs' hcs
            have : b0 ≠ b := by rintro rfl; rw [hb] at hcs; cases hcs
            simp only [Heap.upd, if_neg this, hcs]; exact hx
          · cases hx
        · exact hx
        · exact hx
        · exact hx
    · exact h.elim
  case bslice sz ps =>
    have := hvs_congr (e := (addb kc e).put d v) (e' := e) (xs := ps) (fun z hz => hop z (by simpa [SOp.opds] using hz))
    simp only [SOp.step, this] at h ⊢
    split at h
    · exact ⟨h.1, h.2.1, h.2.2, (by first | rfl | simp), (by simp [noStore]), fun _ agg n z x hx _ => hx⟩
    · exact h.elim
  case store n0 a0 x0 =>
    have hk : kc = none := by
      cases kc with
      | none => rfl
      | some p => exact absurd (hkc rfl).2.2 (by simp [noStore])
    subst hk
    have hx0 := hhv x0 (by simp [SOp.opds])
    have ha0 := hop a0 (by simp [SOp.opds])
    simp only [SOp.step, hx0, ha0] at h ⊢
    split at h
    · obtain ⟨g1, g2, g3⟩ := h
      refine ⟨g1, g2, ?_⟩
      split at g3
      · split at g3
        · exact ⟨g3.1, g3.2, (by first | rfl | simp), (by simp [noStore]), fun hw => by simp [SOp.w3] at hw⟩
        · exact g3.elim
      · rename_i k off hop'
        have hb : ((addb none e).put d v).box k = e.box k := by cases d <;> rfl
        rw [hb] at g3
        split at g3
        · refine ⟨g3.1, ?_, (by first | rfl | simp), (by simp [noStore]), fun hw => by simp [SOp.w3] at hw⟩
          have := g3.2
          rw [hsetb rfl] at this
          exact this
        · exact g3.elim
      · exact g3.elim
    · exact h.elim
  case app sz bytes x0 y0 =>
    have hx0 := hhv x0 (by simp [SOp.opds])
    have hy0 := hhv y0 (by simp [SOp.opds])
    simp only [SOp.step, hx0, hy0] at h ⊢
    have tips : ∀ (b' : Nat) (r : Option Res) (H' : Heap), (∀ c cs, H c = some (.obj cs) → H' c = some (.obj cs)) → ∀ agg n z x, loadEv e H agg n z = some x → loadEv e H' agg n z = some x := by
      intro b' r H' hH agg n z x hx
      simp only [loadEv, SOp.ev] at hx ⊢
      split at hx
      · split at hx
        · rename_i cs' hcs; rw [hH _ _ hcs]; exact hx
        · cases hx
      · exact hx
      · exact hx
      · exact hx
    split at h
    · refine ⟨h.1, fun hy => ⟨h.2.1 hy, (by first | rfl | simp), (by simp [noStore]), fun _ agg n z x hx _ => hx⟩, fun hy => ⟨(h.2.2 hy).1, fun b c hb => ⟨(h.2.2 hy).2 b c hb, (by first | rfl | simp), (by simp [noStore]), fun _ agg n z x hx _ => tips b none _ (fun c cs hc => ?_) agg n z x hx⟩⟩⟩
      have : c ≠ b := by rintro rfl; rw [hb] at hc; cases hc
      simp only [Heap.upd, if_neg this]; exact hc
    · refine ⟨h.1, h.2.1, fun hy => ⟨h.2.2.1 hy, (by first | rfl | simp), (by simp [noStore]), fun _ agg n z x hx _ => hx⟩, fun hy => ⟨(h.2.2.2 hy).1, fun b c hb => ⟨(h.2.2.2 hy).2 b c hb, (by first | rfl | simp), (by simp [noStore]), fun _ agg n z x hx _ => tips b none _ (fun c cs hc => ?_) agg n z x hx⟩⟩⟩
      have : c ≠ b := by rintro rfl; rw [hb] at hc; cases hc
      simp only [Heap.upd, if_neg this]; exact hc
    · rename_i b c sz1 xs sz' ys _ _
      refine ⟨h.1, h.2.1, h.2.2.1, h.2.2.2.1, fun b' c' hb => ⟨h.2.2.2.2 b' c' hb, (by first | rfl | simp), (by simp [noStore]), fun _ agg n z x hx _ => tips b none _ (fun q cs hc => ?_) agg n z x hx⟩⟩
      have h1 : q ≠ b := by rintro rfl; rw [h.2.2.1] at hc; cases hc
      have h2 : q ≠ b' := by
        rintro rfl
        rcases hb with hb | hb
        · exact h1 hb
        · rw [hb] at hc; cases hc
      simp only [Heap.upd, if_neg h1, if_neg h2]; exact hc
    · exact h.elim
  case call g args =>
    have := hvs_congr (e := (addb kc e).put d v) (e' := e) (xs := args) (fun z hz => hop z (by simpa [SOp.opds] using hz))
    simp only [SOp.step, this] at h ⊢
    split at h
    · exact hS _ _ _ _ _ (fun h' H' hk => ⟨hk, (by first | rfl | simp), (by simp [noStore]), fun hw => by simp [SOp.w3] at hw⟩) h
    · exact h.elim
  case callv x0 args =>
    have h1 := hvs_congr (e := (addb kc e).put d v) (e' := e) (xs := args) (fun z hz => hop z (by simp [SOp.opds, hz]))
    have h2 := hhv x0 (by simp [SOp.opds])
    simp only [SOp.step, h1, h2] at h ⊢
    split at h
    · exact hS _ _ _ _ _ (fun h' H' hk => ⟨hk, (by first | rfl | simp), (by simp [noStore]), fun hw => by simp [SOp.w3] at hw⟩) h
    · exact h.elim
  case nd f xs =>
    have := hvs_congr (e := (addb kc e).put d v) (e' := e) (xs := xs) (fun z hz => hop z (by simpa [SOp.opds] using hz))
    simp only [SOp.step, this] at h ⊢
    split at h
    · exact fun h' hr => ⟨h h' hr, (by first | rfl | simp), (by simp [noStore]), fun _ agg n z x hx _ => hx⟩
    · exact h.elim
  case load agg n x0 =>
    have hk : kc = none := by
      cases kc with
      | none => rfl
      | some p => exact absurd (hkc rfl).1 (by simp [SOp.isLoad])
    simp only [SOp.step] at h ⊢
    rw [calm (.load agg n x0) rfl hop (fun _ => hk)] at h
    split at h
    · exact ⟨h, (by first | rfl | simp), (by simp [noStore]), fun _ agg n z x hx _ => hx⟩
    · exact h.elim
  all_goals
    simp only [SOp.step] at h ⊢
    rw [calm _ rfl hop (fun hl => by simp [SOp.isLoad] at hl)] at h
    split at h
    · exact ⟨h, (by first | rfl | simp), (by simp [noStore]), fun _ agg n z x hx _ => hx⟩
    · exact h.elim

end Sm
