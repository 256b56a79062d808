/-
  A layer of one's own: text T.
-/
import Derived.Test.YtkephaeefknlbaaSmR
set_option linter.unusedVariables false
set_option linter.unusedSimpArgs false
set_option linter.unnecessarySimpa false
namespace Sm
open Go

theorem live_put {e : Env} {d : Option Nat} {x : EV} (h : Live e) (hx : x.live e) : Live (e.put d x) := by
  intro t k o ht
  rw [put_bx]
  cases d with
  | none => exact h t k o ht
  | some d =>
    simp only [Env.put, upd] at ht
    split at ht
    · simp only [Option.some.injEq] at ht; subst ht; exact hx
    · exact h t k o ht
theorem live_setb {e : Env} {k : Nat} {cs : List HV} (h : Live e) : Live (e.setb k cs) := by
  intro t k' o ht
  simp only [Env.setb, upd]
  split
  · rfl
  · exact h t k' o ht

theorem opd_live {e : Env} (h : Live e) {z : Opd} {x : EV} (hz : e.opd z = some x) : x.live e := by
  cases x with
  | h v => trivial
  | lp k o =>
    cases z with
    | s t => exact h t k o hz
    | c v => simp [Env.opd] at hz
    | f g => simp [Env.opd] at hz

theorem ev_live {o : SOp} {e : Env} {H : Heap} (h : Live e) {x : EV} (hx : o.ev e H = some x) : x.live e := by
  cases x with
  | h v => trivial
  | lp k off =>
    cases o
    case mv z => exact opd_live h hx
    case pick c a b =>
      simp only [SOp.ev] at hx
      split at hx
      · split at hx
        · exact opd_live h hx
        · exact opd_live h hx
      · cases hx
    case nilc z =>
      simp only [SOp.ev] at hx
      split at hx
      · simp at hx
      · simp at hx
      · rename_i k' off' hz
        simp only [Option.some.injEq, EV.lp.injEq] at hx
        obtain ⟨rfl, rfl⟩ := hx
        exact opd_live h hz
      · simp at hx
      · cases hx
    case fld n z =>
      simp only [SOp.ev] at hx
      split at hx
      · simp at hx
      · split at hx <;> simp at hx
      · rename_i k' off' hz
        simp only [Option.some.injEq, EV.lp.injEq] at hx
        obtain ⟨rfl, rfl⟩ := hx
        have hlv := opd_live h hz
        exact hlv
      · cases hx
    case aidx l sz z i =>
      simp only [SOp.ev] at hx
      split at hx
      · split at hx <;> simp at hx
      · rename_i k' off' kk n hz _
        split at hx
        · simp only [Option.some.injEq, EV.lp.injEq] at hx
          obtain ⟨rfl, _⟩ := hx
          have hlv := opd_live h hz
          exact hlv
        · cases hx
      · split at hx <;> simp at hx
      · cases hx
    all_goals
      simp only [SOp.ev] at hx
      repeat' split at hx
      all_goals first
        | (cases hx; done)
        | (simp at hx; done)
        | (obtain ⟨_, _, hx⟩ := Option.map_eq_some_iff.1 hx; simp at hx; done)

theorem step_live {S : SpecT} (hS : SMono S) {o : SOp} {e : Env} {H : Heap} {K : EV → Env → Heap → Prop} (h : Live e) (hs : o.step S e H K) : o.step S e H fun x e' H' => (Live e' ∧ x.live e') ∧ K x e' H' := by
  cases o
  case alloc loc cs =>
    simp only [SOp.step] at hs ⊢
    cases loc with
    | some k => exact ⟨hs.1, ⟨live_setb h, by simp [EV.live, Env.setb, Env.box, upd]⟩, hs.2⟩
    | none => exact fun b hb => ⟨⟨h, trivial⟩, hs b hb⟩
  case box loc n x =>
    simp only [SOp.step] at hs ⊢
    split at hs
    · refine ⟨hs.1, hs.2.1, ?_⟩
      cases loc with
      | some k => exact ⟨hs.2.2.1, ⟨live_setb h, by simp [EV.live, Env.setb, Env.box, upd]⟩, hs.2.2.2⟩
      | none => exact fun b hb => ⟨⟨h, trivial⟩, hs.2.2 b hb⟩
    · exact hs.elim
  case bslice sz ps =>
    simp only [SOp.step] at hs ⊢
    split at hs
    · exact ⟨hs.1, hs.2.1, ⟨h, trivial⟩, hs.2.2⟩
    · exact hs.elim
  case store n a x =>
    simp only [SOp.step] at hs ⊢
    split at hs
    · refine ⟨hs.1, hs.2.1, ?_⟩
      have h3 := hs.2.2
      split at h3
      · split at h3
        · exact ⟨h3.1, ⟨h, trivial⟩, h3.2⟩
        · exact h3.elim
      · split at h3
        · exact ⟨h3.1, ⟨live_setb h, trivial⟩, h3.2⟩
        · exact h3.elim
      · exact h3.elim
    · exact hs.elim
  case app sz bytes x y =>
    simp only [SOp.step] at hs ⊢
    split at hs
    · exact ⟨hs.1, fun hy => ⟨⟨h, trivial⟩, hs.2.1 hy⟩, fun hy => ⟨(hs.2.2 hy).1, fun b c hb => ⟨⟨h, trivial⟩, (hs.2.2 hy).2 b c hb⟩⟩⟩
    · exact ⟨hs.1, hs.2.1, fun hy => ⟨⟨h, trivial⟩, hs.2.2.1 hy⟩, fun hy => ⟨(hs.2.2.2 hy).1, fun b c hb => ⟨⟨h, trivial⟩, (hs.2.2.2 hy).2 b c hb⟩⟩⟩
    · exact ⟨hs.1, hs.2.1, hs.2.2.1, hs.2.2.2.1, fun b c hb => ⟨⟨h, trivial⟩, hs.2.2.2.2 b c hb⟩⟩
    · exact hs.elim
  case call g args =>
    simp only [SOp.step] at hs ⊢
    split at hs
    · exact hS _ _ _ _ _ (fun h' H' hk => ⟨⟨h, trivial⟩, hk⟩) hs
    · exact hs.elim
  case callv x args =>
    simp only [SOp.step] at hs ⊢
    split at hs
    · exact hS _ _ _ _ _ (fun h' H' hk => ⟨⟨h, trivial⟩, hk⟩) hs
    · exact hs.elim
  case nd f xs =>
    simp only [SOp.step] at hs ⊢
    split at hs
    · exact fun h' hr => ⟨⟨h, trivial⟩, hs h' hr⟩
    · exact hs.elim
  all_goals
    simp only [SOp.step] at hs ⊢
    split at hs
    · rename_i x hx; exact ⟨⟨h, ev_live h hx⟩, hs⟩
    · exact hs.elim

theorem rsem1_live {S : SpecT} (hS : SMono S) {Y : SOper} {e : Env} {H : Heap} {K : Env → Heap → Prop} (h : Live e) (hs : rsem1 S Y e H K) : rsem1 S Y e H fun e' H' => Live e' ∧ K e' H' := by
  unfold rsem1 at hs ⊢
  split at hs
  · exact step_mono hS (fun x e' H' hk => ⟨live_put hk.1.1 hk.1.2, hk.2⟩) _ (step_live hS h hs)
  · split at hs
    · rename_i b hb
      exact ⟨fun hbw => step_mono hS (fun x e' H' hk => ⟨live_put hk.1.1 hk.1.2, hk.2⟩) _ (step_live hS (live_put h trivial) (hs.1 hbw)), fun hbn => ⟨live_put (x := .h .undef) (live_put h trivial) trivial, hs.2 hbn⟩⟩
    · exact ⟨live_put h trivial, hs⟩
    · exact hs.elim

/-- A read that is told again behind an early operation is told again ahead of it. -/
theorem rc_back {X Z : SOper} {e1 : Env} {H1 : Heap} {p} (hl : Live e1) (hp : X.fe e1 H1 = some p) (hZ : Z.op.isLoad = true) (h1 : notIn X.dst Z = true) (h2 : Z.dst ≠ X.dst) (hr : rc1 Z ((addb p.1 e1).put X.dst p.2) H1) : rc1 Z e1 H1 := by
  have hev : Z.op.ev ((addb p.1 e1).put X.dst p.2) H1 = Z.op.ev e1 H1 := by
    cases hop : Z.op <;> simp only [hop, SOp.isLoad, Bool.false_eq_true] at hZ
    rename_i agg n z
    have hz : ((addb p.1 e1).put X.dst p.2).opd z = e1.opd z := (opd_put (fun t ht => notIn_opds h1 t ht z (by rw [hop]; simp [SOp.opds]))).trans opd_addb
    have hbox : ∀ k o, e1.opd z = some (.lp k o) → ((addb p.1 e1).put X.dst p.2).box k = e1.box k := by
          intro k o hz1
          have hk := opd_live hl hz1
          unfold Env.box
          rw [put_bx]
          cases hp1 : p.1 with
          | none => rfl
          | some q =>
            obtain ⟨k', cs⟩ := q
            have hnew : e1.box k' = none := by
              have key : ∀ q, X.op.fe e1 H1 = some q → q.1 = some (k', cs) → e1.box k' = none := by
                intro q hq hq1
                cases hop2 : X.op <;> rw [hop2] at hq
                case alloc loc cs' =>
                  cases loc with
                  | none => cases hq
                  | some kk =>
                    simp only [SOp.fe] at hq
                    split at hq
                    · simp only [Option.some.injEq] at hq; subst hq
                      simp only [Option.some.injEq, Prod.mk.injEq] at hq1
                      rw [← hq1.1]; rename_i hn; simpa using hn
                    · cases hq
                case box loc n x =>
                  cases loc with
                  | none => cases hq
                  | some kk =>
                    simp only [SOp.fe] at hq
                    split at hq
                    · split at hq
                      · simp only [Option.some.injEq] at hq; subst hq
                        simp only [Option.some.injEq, Prod.mk.injEq] at hq1
                        rename_i hn
                        rw [← hq1.1]; simpa using hn.2.2
                      · cases hq
                    · cases hq
                case bslice sz ps =>
                  simp only [SOp.fe] at hq
                  split at hq
                  · split at hq
                    · simp only [Option.some.injEq] at hq; subst hq; cases hq1
                    · cases hq
                  · cases hq
                case store => cases hq
                case app => cases hq
                case call => cases hq
                case callv => cases hq
                case nd => cases hq
                all_goals
                  obtain ⟨y, _, rfl⟩ := Option.map_eq_some_iff.1 hq
                  cases hq1
              unfold SOper.fe at hp
              split at hp
              · exact key p hp hp1
              · split at hp
                · split at hp
                  · exact key p hp hp1
                  · simp only [Option.some.injEq] at hp; subst hp; cases hp1
                · simp only [Option.some.injEq] at hp; subst hp; cases hp1
                · cases hp
            have hne : k' ≠ k := by
              rintro rfl
              simp only [EV.live] at hk
              rw [hnew] at hk; cases hk
            simp only [addb, Env.setb, upd, if_neg hne]
    simp only [SOp.ev, hz]
    split
    · rfl
    · rfl
    · rename_i k o hz1; rw [hbox k o hz1]
    · rfl
  unfold rc1 at hr ⊢
  cases hd : Z.dst with
  | none => rw [hd] at hr; exact hr
  | some d =>
    rw [hd] at hr
    have hget : ((addb p.1 e1).put X.dst p.2).get d = e1.get d := get_put_ne (fun he => h2 (by rw [hd, he]))
    cases hg : Z.guard with
    | none =>
      rw [hg] at hr
      simp only at hr ⊢
      rw [hev, hget] at hr; exact hr
    | some q =>
      obtain ⟨g, w⟩ := q
      rw [hg] at hr
      simp only at hr ⊢
      intro hgw
      have hgx : X.dst ≠ some g := fun he => notIn_guard h1 g he g w hg rfl
      have := hr (by rw [get_put_ne hgx]; exact hgw)
      rw [hev, hget] at this; exact this

/-- May the read at z be told again ahead of the operation at x? -/
def rcOk (L : List DOper) (z x : Nat) : Bool := (L[z]!).o.op.isLoad && notIn (L[x]!).o.dst (L[z]!).o && decide ((L[z]!).o.dst ≠ (L[x]!).o.dst)

theorem rcok_iff {L : List DOper} : ∀ {zs : List Nat} {e H}, rcok L zs e H ↔ ∀ z ∈ zs, rc1 (L[z]!).o e H
  | [], e, H => by simp [rcok]
  | z :: zs, e, H => by simp [rcok, rcok_iff (zs := zs)]

theorem move {S : SpecT} (hS : SMono S) {L : List DOper} {y : Nat} {K : Env → Heap → Prop} : ∀ (pre post : List Nat) {e : Env} {H : Heap}, Live e → (∀ x ∈ pre, swapOk L x y = true ∧ (L[x]!).rc = []) →
    pre.Pairwise (fun x x' => (L[y]!).rc.contains x = true → rcOk L x x' = true) →
    dsem S L (pre ++ y :: post) e H K → rsem1 S (L[y]!).o e H fun e1 H1 => (∀ z ∈ (L[y]!).rc, (∀ x ∈ pre, rcOk L z x = true) → rc1 (L[z]!).o e1 H1) ∧ dsem S L (pre ++ post) e1 H1 K
  | [], post, e, H, hl, _, _, h => by
    simp only [List.nil_append, dsem] at h
    exact rsem1_mono hS (fun e1 H1 hk => ⟨fun z hz _ => rcok_iff.1 hk.1 z hz, hk.2⟩) _ _ _ h
  | x :: pre, post, e, H, hl, hsw, hpw, h => by
    simp only [List.cons_append, dsem] at h
    obtain ⟨hx, hxrc⟩ := hsw x (by simp)
    simp only [swapOk, Bool.and_eq_true, decide_eq_true_eq, Bool.or_eq_true, Bool.not_eq_true'] at hx
    obtain ⟨⟨⟨⟨⟨⟨⟨a1, a2⟩, a3⟩, a4⟩, a5⟩, a6⟩, a7⟩, a8⟩ := hx
    rw [List.pairwise_cons] at hpw
    have h1 : rsem1 S (L[x]!).o e H fun e1 H1 => rsem1 S (L[y]!).o e1 H1 fun e2 H2 => (∀ z ∈ (L[y]!).rc, (∀ x ∈ pre, rcOk L z x = true) → rc1 (L[z]!).o e2 H2) ∧ dsem S L (pre ++ post) e2 H2 K :=
      rsem1_mono hS (fun e1 H1 hk => move hS pre post hk.1 (fun z hz => hsw z (by simp [hz])) hpw.2 hk.2.2) _ _ _ (rsem1_live hS hl h)
    have hpriv : (L[x]!).o.op.priv = true → (L[y]!).o.op.isLoad = false ∧ (L[y]!).o.op.priv = false ∧ noStore (L[y]!).o.op = true := by
      intro hp
      rcases a7 with a7 | a7
      · rw [hp] at a7; cases a7
      · exact ⟨a7.1.1, a7.1.2, a7.2⟩
    have h2 := swap hS a1 a2 a3 a4 a5 a6 hpriv (fun hld hw e2 H2 hk => by
      rcases a8 with a8 | a8
      · rw [hld, hw] at a8; simp at a8
      · exact hk.1 x (by simpa using a8) (fun x' hx' => hpw.1 x' hx' a8)) h1
    refine rsem1_mono hS ?_ _ _ _ (rsem1_live hS hl h2)
    intro e1 H1 ⟨hl1, hk⟩
    obtain ⟨p, hp, hk1, hk2⟩ := (rsem1_early a1).1 hk
    refine ⟨fun z hz hzz => ?_, ?_⟩
    · have hzx := hzz x (by simp)
      simp only [rcOk, Bool.and_eq_true, decide_eq_true_eq] at hzx
      exact rc_back hl1 hp hzx.1.1 hzx.1.2 hzx.2 (hk1 z hz (fun x' hx' => hzz x' (by simp [hx'])))
    · simp only [List.cons_append, dsem]
      refine (rsem1_early a1).2 ⟨p, hp, ?_, hk2⟩
      rw [hxrc]; trivial

/-- An order l of the places that comes to the order r. -/
inductive Comes' (L : List DOper) : List Nat → List Nat → Prop
  | nil : Comes' L [] []
  | cons {y : Nat} {l pre post : List Nat} (h1 : ∀ x ∈ pre, swapOk L x y = true ∧ (L[x]!).rc = []) (h2 : pre.Pairwise (fun x x' => (L[y]!).rc.contains x = true → rcOk L x x' = true)) (h : Comes' L l (pre ++ post)) : Comes' L (y :: l) (pre ++ y :: post)

theorem reorder {S : SpecT} (hS : SMono S) {L : List DOper} {K : Env → Heap → Prop} : ∀ {l r : List Nat}, Comes' L l r → ∀ {e : Env} {H : Heap}, Live e → dsem S L r e H K → rsem S (l.map fun i => (L[i]!).o) e H K := by
  intro l r h
  induction h with
  | nil => intro e H _ h; exact h
  | cons h1 h2 h3 ih =>
    intro e H hl h
    simp only [List.map_cons, rsem]
    exact rsem1_mono hS (fun e1 H1 hk => ih hk.1 hk.2.2) _ _ _ (rsem1_live hS hl (move hS _ _ hl h1 h2 h))

end Sm
