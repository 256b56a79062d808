/-
  A layer of one's own: text R.
-/
import Derived.Test.YtkephaeefknlbaaSmQ
set_option linter.unusedVariables false
set_option linter.unusedSimpArgs false
set_option linter.unnecessarySimpa false
namespace Sm
open Go

def notIn (d : Option Nat) (X : SOper) : Bool :=
  match d with
  | none => true
  | some d => X.op.opds.all (fun z => !z.isS d) && (match X.guard with
    | some (t, _) => decide (t ≠ d)
    | none => true)

theorem notIn_opds {d : Option Nat} {X : SOper} (h : notIn d X = true) : ∀ t, d = some t → ∀ z ∈ X.op.opds, z.isS t = false := by
  intro t ht z hz
  subst ht
  simp only [notIn, Bool.and_eq_true, List.all_eq_true] at h
  simpa using h.1 z hz
theorem notIn_guard {d : Option Nat} {X : SOper} (h : notIn d X = true) : ∀ t, d = some t → ∀ g w, X.guard = some (g, w) → g ≠ t := by
  intro t ht g w hg
  subst ht
  simp only [notIn, Bool.and_eq_true, hg, decide_eq_true_eq] at h
  exact h.2

theorem put_comm {e : Env} {kc : Option (Nat × List HV)} {d d' : Option Nat} {v u : EV} (h : ∀ t, d = some t → d' ≠ some t) : ((addb kc e).put d v).put d' u = (addb kc (e.put d' u)).put d v := by
  cases d with
  | none => cases d' <;> cases kc <;> rfl
  | some t =>
    cases d' with
    | none => cases kc <;> rfl
    | some t' =>
      have hne : t' ≠ t := fun e => h t rfl (by rw [e])
      have : ∀ (sl : Nat → Option EV), upd (upd sl t v) t' u = upd (upd sl t' u) t v := by
        intro sl; funext i
        simp only [upd]
        by_cases h1 : t' = i
        · subst h1; simp [hne.symm]
        · simp [h1]
      cases kc with
      | none => simp only [addb, Env.put, this]
      | some p => simp only [addb, Env.setb, Env.put, this]

theorem get_put_ne {e : Env} {kc : Option (Nat × List HV)} {d : Option Nat} {v : EV} {t : Nat} (h : d ≠ some t) : ((addb kc e).put d v).get t = e.get t := by
  cases d with
  | none => cases kc <;> rfl
  | some s =>
    have : s ≠ t := fun e => h (by rw [e])
    cases kc <;> simp only [addb, Env.setb, Env.put, Env.get, upd, if_neg this]

/-- What an operation leaves as it was. -/
def Facts (Y : SOper) (e : Env) (H : Heap) (e1 : Env) (H1 : Heap) : Prop :=
  (∀ t, Y.dst ≠ some t → e1.sl t = e.sl t) ∧ (Y.op.priv = false → noStore Y.op = true → e1.bx = e.bx) ∧
  (Y.op.w3 = false → ∀ agg n z x, loadEv e H agg n z = some x → (∀ t, Y.dst = some t → z.isS t = false) → loadEv e1 H1 agg n z = some x)

theorem loadEv_congr {e e' : Env} {H : Heap} {agg n z} (h : e.opd z = e'.opd z) (hb : e.bx = e'.bx) : loadEv e H agg n z = loadEv e' H agg n z :=
  ev_congr _ (by simpa [SOp.opds] using h) (fun _ => ⟨hb, rfl⟩)

theorem put_bx {e : Env} {d : Option Nat} {v : EV} : (e.put d v).bx = e.bx := by cases d <;> rfl
theorem put_sl {e : Env} {d : Option Nat} {v : EV} {t : Nat} (h : d ≠ some t) : (e.put d v).sl t = e.sl t := by
  cases d with
  | none => rfl
  | some s =>
    have : s ≠ t := fun e => h (by rw [e])
    simp only [Env.put, upd, if_neg this]

theorem facts_put {Y : SOper} {e e1 : Env} {H H1 : Heap} {u : EV} (h1 : e1.sl = e.sl) (h2 : Y.op.priv = false → noStore Y.op = true → e1.bx = e.bx)
    (h3 : Y.op.w3 = false → ∀ agg n z x, loadEv e H agg n z = some x → e1.opd z = e.opd z → loadEv e1 H1 agg n z = some x) : Facts Y e H (e1.put Y.dst u) H1 := by
  refine ⟨fun t ht => by rw [put_sl ht, h1], fun a b => by rw [put_bx]; exact h2 a b, fun a agg n z x hx hz => ?_⟩
  have hz1 : e1.opd z = e.opd z := by cases z <;> simp only [Env.opd, Env.get, h1]
  rw [loadEv_congr (e' := e1) (opd_put hz) put_bx]
  exact h3 a agg n z x hx hz1

theorem rsem1_frame {S : SpecT} (hS : SMono S) (Y : SOper) {e : Env} {H : Heap} {kc : Option (Nat × List HV)} {d : Option Nat} {v : EV} {K : Env → Heap → Prop}
    (hd : notIn d Y = true) (hdd : ∀ t, d = some t → Y.dst ≠ some t) (hkc : kc.isSome = true → Y.op.isLoad = false ∧ Y.op.priv = false ∧ noStore Y.op = true)
    (h : rsem1 S Y ((addb kc e).put d v) H K) : rsem1 S Y e H fun e1 H1 => K ((addb kc e1).put d v) H1 ∧ Facts Y e H e1 H1 := by
  have ho := notIn_opds hd
  have main : Y.op.step S ((addb kc e).put d v) H (fun x e' H' => K (e'.put Y.dst x) H') → Y.op.step S e H (fun x e' H' => K ((addb kc (e'.put Y.dst x)).put d v) H' ∧ Facts Y e H (e'.put Y.dst x) H') := by
    intro hh
    refine step_mono hS ?_ _ (step_frame hS Y.op ho hkc hh)
    intro x e' H' ⟨h1, h2, h3, h4⟩
    rw [put_comm hdd] at h1
    exact ⟨h1, facts_put h2 h3 h4⟩
  unfold rsem1 at h ⊢
  cases hg : Y.guard with
  | none => rw [hg] at h; exact main h
  | some q =>
    obtain ⟨t, want⟩ := q
    rw [hg] at h
    simp only at h ⊢
    have htd : d ≠ some t := fun e1 => by
      have := notIn_guard hd t e1 t want hg
      exact this rfl
    rw [get_put_ne htd] at h
    cases hget : e.get t with
    | none => rw [hget] at h; exact h.elim
    | some ev =>
      rw [hget] at h
      cases ev with
      | lp k o => exact h.elim
      | h hv =>
        cases hv with
        | v u =>
          cases u
          case bool b =>
            simp only at h ⊢
            have hb : ∀ c, b = c → ((addb kc e).put d v).put (some t) (.h (.v (.bool c))) = (addb kc e).put d v := by
              intro c hc; subst hc
              exact put_same (by rw [get_put_ne htd]; exact hget)
            refine ⟨fun hbw => ?_, fun hbn => ?_⟩
            · have h1 := h.1 hbw
              rw [hb want hbw] at h1
              subst hbw
              rw [put_same hget]
              exact main h1
            · have h2 := h.2 hbn
              rw [hb _ hbn] at h2
              subst hbn
              rw [put_same hget]
              rw [put_comm hdd] at h2
              exact ⟨h2, facts_put rfl (fun _ _ => rfl) (fun _ _ _ _ _ hx _ => hx)⟩
          case tuple us =>
            simp only at h ⊢
            rw [put_comm hdd] at h
            exact ⟨h, facts_put rfl (fun _ _ => rfl) (fun _ _ _ _ _ hx _ => hx)⟩
          all_goals exact h.elim
        | _ => exact h.elim

theorem fe_calm {o : SOp} (h1 : o.early = true) (h2 : o.priv = false) (h3 : o.isBs = false) {e : Env} {H : Heap} : o.fe e H = (o.ev e H).map fun x => (none, x) := by
  cases o
  case alloc loc cs => cases loc <;> simp [SOp.priv, SOp.early, SOp.calm] at h1 h2
  case box loc n x => cases loc <;> simp [SOp.priv, SOp.early, SOp.calm] at h1 h2
  case bslice => simp [SOp.isBs] at h3
  case store => simp [SOp.early, SOp.calm] at h1
  case app => simp [SOp.early, SOp.calm] at h1
  case call => simp [SOp.early, SOp.calm] at h1
  case callv => simp [SOp.early, SOp.calm] at h1
  case nd => simp [SOp.early, SOp.calm] at h1
  all_goals rfl

theorem fe_stable {o : SOp} (ho : o.early = true) {e e1 : Env} {H H1 : Heap} {p} (h : ∀ z ∈ o.opds, e1.opd z = e.opd z) (hp : o.priv = true → e1.bx = e.bx) (hl : o.isLoad = true → ∀ x, o.ev e H = some x → p = (none, x) → o.ev e1 H1 = some x)
    (hfe : o.fe e H = some p) : o.fe e1 H1 = some p := by
  cases o
  case alloc loc cs =>
    cases loc with
    | none => simp [SOp.early, SOp.calm] at ho
    | some k =>
      simp only [SOp.fe, Env.box, hp rfl] at hfe ⊢; exact hfe
  case box loc n x =>
    cases loc with
    | none => simp [SOp.early, SOp.calm] at ho
    | some k =>
      have := hv_congr (h x (by simp [SOp.opds]))
      simp only [SOp.fe, Env.box, hp rfl, this] at hfe ⊢; exact hfe
  case bslice sz ps =>
    have := hvs_congr (e := e1) (e' := e) (xs := ps) (fun z hz => h z (by simpa [SOp.opds] using hz))
    simp only [SOp.fe, this] at hfe ⊢; exact hfe
  case store => simp [SOp.early, SOp.calm] at ho
  case app => simp [SOp.early, SOp.calm] at ho
  case call => simp [SOp.early, SOp.calm] at ho
  case callv => simp [SOp.early, SOp.calm] at ho
  case nd => simp [SOp.early, SOp.calm] at ho
  case load agg n x =>
    rw [fe_calm ho rfl rfl] at hfe ⊢
    obtain ⟨y, hy, rfl⟩ := Option.map_eq_some_iff.1 hfe
    rw [hl rfl y hy rfl]; rfl
  all_goals
    rw [fe_calm ho rfl rfl] at hfe ⊢
    rw [ev_congr _ h (fun hl' => by simp [SOp.isLoad] at hl')]
    exact hfe

def swapOk (L : List DOper) (x y : Nat) : Bool :=
  let X := (L[x]!).o
  let Y := (L[y]!).o
  X.op.early && X.dst.isSome && notIn X.dst Y && notIn X.dst X && decide (X.dst ≠ Y.dst) && notIn Y.dst X &&
    (!X.op.priv || (!Y.op.isLoad && !Y.op.priv && noStore Y.op)) && (!(X.op.isLoad && Y.op.w3) || (L[y]!).rc.contains x)

theorem swap {S : SpecT} (hS : SMono S) {X Y : SOper} (hX : X.op.early = true) (hXd : X.dst.isSome = true) (h1 : notIn X.dst Y = true) (h0 : notIn X.dst X = true) (h2 : X.dst ≠ Y.dst) (h3 : notIn Y.dst X = true)
    (h4 : X.op.priv = true → Y.op.isLoad = false ∧ Y.op.priv = false ∧ noStore Y.op = true) {e : Env} {H : Heap} {K : Env → Heap → Prop} (hrc : X.op.isLoad = true → Y.op.w3 = true → ∀ e2 H2, K e2 H2 → rc1 X e2 H2)
    (h : rsem1 S X e H fun e1 H1 => rsem1 S Y e1 H1 K) : rsem1 S Y e H fun e1 H1 => rsem1 S X e1 H1 K := by
  obtain ⟨p, hp, hy⟩ := (rsem1_early hX).1 h
  have hdd : ∀ t, X.dst = some t → Y.dst ≠ some t := fun t ht hy => h2 (by rw [ht, hy])
  have hkcp : p.1.isSome = true → X.op.priv = true := by
    intro hs
    -- only a private box makes one
    unfold SOper.fe at hp
    have key : ∀ q, X.op.fe e H = some q → q.1.isSome = true → X.op.priv = true := by
      intro q hq hs
      cases hpr : X.op.priv with
      | true => rfl
      | false =>
        by_cases hb : X.op.isBs = false
        · rw [fe_calm hX hpr hb] at hq
          obtain ⟨y, _, rfl⟩ := Option.map_eq_some_iff.1 hq
          simp at hs
        · cases hop : X.op <;> simp only [hop, SOp.isBs, not_true_eq_false] at hb hq
          simp only [SOp.fe] at hq
          split at hq
          · split at hq
            · simp only [Option.some.injEq] at hq; subst hq; simp at hs
            · cases hq
          · cases hq
    split at hp
    · exact key p hp hs
    · split at hp
      · split at hp
        · exact key p hp hs
        · simp only [Option.some.injEq] at hp; subst hp; simp at hs
      · simp only [Option.some.injEq] at hp; subst hp; simp at hs
      · cases hp
  have hf := rsem1_frame hS Y h1 hdd (fun hs => h4 (hkcp hs)) hy
  refine rsem1_mono hS ?_ _ _ _ hf
  intro e1 H1 ⟨hk, f1, f2, f3⟩
  refine (rsem1_early hX).2 ⟨p, ?_, hk⟩
  have hopd : ∀ z ∈ X.op.opds, e1.opd z = e.opd z := by
    intro z hz
    cases z with
    | s s =>
      simp only [Env.opd, Env.get]
      refine f1 s (fun hd => ?_)
      have := notIn_opds h3 s hd (.s s) hz
      simp [Opd.isS] at this
    | c v => rfl
    | f g => rfl
  have hgd : ∀ g w, X.guard = some (g, w) → e1.get g = e.get g := fun g w hg => f1 g (fun hd => notIn_guard h3 g hd g w hg rfl)
  have exec : X.op.fe e H = some p → (∀ g w, X.guard = some (g, w) → e.get g = some (.h (.v (.bool w)))) → X.op.fe e1 H1 = some p := by
    intro hfe hgw
    refine fe_stable hX hopd (fun hpr => f2 (h4 hpr).2.1 (h4 hpr).2.2) (fun hl x hx hpx => ?_) hfe
    cases hop : X.op <;> simp only [hop, SOp.isLoad, Bool.false_eq_true] at hl
    rename_i agg n z
    rw [hop] at hx
    cases hw : Y.op.w3 with
    | false =>
      refine f3 hw agg n z x hx (fun t ht => notIn_opds h3 t ht z (by rw [hop]; simp [SOp.opds]))
    | true =>
      have hr := hrc (by rw [hop]; rfl) hw _ _ hk
      subst hpx
      unfold rc1 at hr
      cases hXd' : X.dst with
      | none => rw [hXd'] at hXd; cases hXd
      | some dx =>
        have hget : ((addb none e1).put (some dx) x).get dx = some x := by simp [addb, Env.put, Env.get, upd]
        have hev : X.op.ev ((addb none e1).put (some dx) x) H1 = X.op.ev e1 H1 := by
          refine ev_congr _ (fun z hz => ?_) (fun _ => ⟨put_bx, rfl⟩)
          exact opd_put (fun t ht => notIn_opds h0 t (by rw [hXd', ht]) z hz)
        rw [hXd'] at hr
        cases hg : X.guard with
        | none =>
          rw [hg] at hr
          simp only at hr
          rw [hev, hget, hop] at hr; exact hr
        | some q =>
          obtain ⟨g, w⟩ := q
          rw [hg] at hr
          simp only at hr
          have hgne : g ≠ dx := notIn_guard h0 dx hXd' g w hg
          have := hr (by rw [get_put_ne (kc := none) (d := some dx) (fun he => hgne (by injection he with he; exact he.symm)), hgd g w hg]; exact hgw g w hg)
          rw [hev, hget, hop] at this; exact this
  unfold SOper.fe at hp ⊢
  cases hg : X.guard with
  | none => rw [hg] at hp; exact exec hp (fun g w hgw => by rw [hg] at hgw; cases hgw)
  | some q =>
    obtain ⟨g, w⟩ := q
    rw [hg] at hp
    simp only at hp ⊢
    rw [hgd g w hg]
    cases hget : e.get g with
    | none => rw [hget] at hp; cases hp
    | some ev =>
      rw [hget] at hp
      cases ev with
      | lp k o => exact hp
      | h hv =>
        cases hv with
        | v u =>
          cases u
          case bool b =>
            simp only at hp ⊢
            by_cases hbw : b = w
            · subst hbw
              rw [if_pos rfl] at hp ⊢
              exact exec hp (fun g' w' hgw => by rw [hg] at hgw; injection hgw with hgw; injection hgw with ha hb; subst ha; subst hb; exact hget)
            · rw [if_neg hbw] at hp ⊢; exact hp
          all_goals exact hp
        | _ => exact hp

end Sm
