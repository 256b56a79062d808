/-
  A layer of one's own: text L6.
-/
import Derived.Test.YtkephaeefknlbaaSmL5
set_option linter.unusedVariables false
set_option linter.unusedSimpArgs false
set_option maxRecDepth 10000
set_option maxHeartbeats 1000000
namespace Sm
open Go
-- BASE lossU
attribute [local irreducible] csem rsem dsem seqK blockK normK finK DK RK BR G3 resK Spec Tok Fr

theorem chkG_may : ∀ (l : List Sp) (a : Int), chkG a l = true → ∀ x ∈ l, mayS x = true
  | [], _, _, x, hx => by simp at hx
  | s :: r, a, h, x, hx => by
    simp only [chkG, Bool.and_eq_true] at h
    rcases List.mem_cons.mp hx with rfl | hx
    · exact h.1.1
    · exact chkG_may r _ h.2 x hx
theorem chk0 {l : List Sp} (h : chk l = 0) : l.length ≤ 64 ∧ 0 < l.length ∧ ∀ x ∈ l, mayS x = true := by
  unfold chk at h
  split at h
  · cases h
  · split at h
    · cases h
    · split at h
      · cases h
      · rename_i h1 h2 h3
        refine ⟨by omega, List.length_pos_iff.mpr h3, chkG_may l (-2) (by simpa using h2)⟩
def toS (s : List Sp) : Int := match s.getLast? with
  | some x => x.hi
  | none => 0
theorem toS_get {s : List Sp} (h : 0 < s.length) : toS s = (s[s.length - 1]'(by omega)).hi := by
  have : s.getLast? = some (s[s.length - 1]'(by omega)) := by
    rw [List.getLast?_eq_getElem?]; simp [h]
  rw [toS, this]
def ackE (l : Led) (s : List Sp) (now : Int) : Int := if chk s ≠ 0 then chk s else if !l.som || decide (l.last.num < toS s) then 16 else if decide (now < l.last.at') || decide (1099511627776 < now) then 21 else 0
def ackG (l : Led) (s : List Sp) : List Pk := l.opn.filter fun p => s.any fun x => inS x p.num
def smp (G : List Pk) (to big now : Int) : Int × Bool := match G.getLast? with
  | some q => if G.any (·.asks) && (q.num == to) && decide (big < to) then (now - q.at', true) else (0, false)
  | none => (0, false)
def ackS (l : Led) (s : List Sp) (now : Int) : Int × Bool := smp (ackG l s) (toS s) l.big now
def ackN (l : Led) (s : List Sp) : Led := { l with opn := l.opn.filter fun p => !(s.any fun x => inS x p.num), big := max l.big (toS s) }
/-- What Ack answers, and what is then. -/
def ackR (l : Led) (s : List Sp) (now : Int) : List Pk × Int × Bool × Int := if ackE l s now = 0 then (ackG l s, (ackS l s now).1, (ackS l s now).2, 0) else ([], 0, false, ackE l s now)
def ackL (l : Led) (s : List Sp) (now : Int) : Led := if ackE l s now = 0 then ackN l s else l
def encA (r : List Pk × Int × Bool × Int) : HV := .tu [.sl .no 4 (r.1.map enc), I r.2.1, B r.2.2.1, I r.2.2.2]

theorem ack_spec (L : Linked code) (b : Nat) (l : Led) (tk tk2 : Tk) (s : List Sp) (now : Int) (H : Heap) (h : LedAt H b l tk) (hlen : l.opn.length ≤ 1048576) (hp : ∀ p ∈ l.opn, pok p) (hl0 : 0 ≤ l.last.at') (K)
    (hk : ∀ H' tk', LUp b H H' tk tk' → LedAt H' b (ackL l s now) tk' → K (encA (ackR l s now)) H') : Spec L.P L.ν 108 [ptr b, .sl tk2 2 (s.map encS), I now] H K := by
  have hno : ∀ e, ackE l s now = e → e ≠ 0 → K (.tu [.sl .no 4 [], I 0, B false, I e]) H := fun e e1 e2 => by
    subst e1
    have := hk H tk (LUp.refl _ _ _) (by rw [ackL, if_neg e2]; exact h)
    rw [ackR, if_neg e2] at this
    exact this
  have hw : ∀ e, Weak (tupled [.v (.slice none 0 0), I 0, B false, I e]) (.tu [.sl .no 4 [], I 0, B false, I e]) := fun e => Weak.tu ⟨Weak.nil' 4, Weak.refl _, Weak.refl _, Weak.refl _, trivial⟩
  obtain ⟨h1, h2⟩ := h
  refine go_spec L code108 rfl ?_
  repeat (refine gk lossU ?_)
  refine bxk lossU ?_
  intro c X hc x1 x2 x3
  have hT : Tok X tk l.opn.length 4 := h2.fr' x2 (by simp)
  have g1 := x2.get (by simp) h1
  repeat (refine gk lossU ?_)
  (apply r_call; (focus rfl))
  refine chk1_spec L _ s _ _ ?_
  cases e0 : (chk s != 0)
  case true =>
    repeat (refine gk (And.intro lossU e0) ?_)
    have e2 : chk s ≠ 0 := by simpa using e0
    exact resK_sub (hw _) x3 (hno _ (by rw [ackE, if_pos e2]) e2)
  have e1 : chk s = 0 := by simpa using e0
  obtain ⟨s1, s2, s3⟩ := chk0 e1
  have s4 : s.length - 1 < s.length := by omega
  have s5 := mayS_iff.mp (s3 _ (List.getElem_mem s4))
  have hto := toS_get s2
  repeat (refine gk (And.intro lossU e0) ?_)
  (apply r_idx (j := s.length - 1); (focus rfl); (focus rfl); (focus omega); (focus (first | exact get_enc (by omega) | assumption | rfl | (simp only [get_enc, *] <;> rfl))); (focus (simp only [lossU, nf, Nat.reduceAdd, Nat.reduceLeDiff] <;> rfl)))
  have hE : ∀ e, (if !l.som || decide (l.last.num < toS s) then (16 : Int) else if decide (now < l.last.at') || decide (1099511627776 < now) then 21 else 0) = e → ackE l s now = e := fun e h => by rw [ackE, if_neg (by simp [e1])]; exact h
  rw [hto] at hE
  cases c1 : l.som
  case false =>
    rw [c1] at hE
    repeat (refine gk (And.intro lossU c1) ?_)
    exact resK_sub (hw _) x3 (hno 16 (hE _ rfl) (by decide))
  rw [c1] at hE
  cases c2 : decide (l.last.num < s[s.length - 1].hi)
  case true =>
    rw [c2] at hE
    repeat (refine gk (And.intro lossU (And.intro c1 c2)) ?_)
    exact resK_sub (hw _) x3 (hno 16 (hE _ rfl) (by decide))
  rw [c2] at hE
  cases c3 : decide (now < l.last.at')
  case true =>
    rw [c3] at hE
    repeat (refine gk (And.intro lossU (And.intro c1 (And.intro c2 c3))) ?_)
    exact resK_sub (hw _) x3 (hno 21 (hE _ rfl) (by decide))
  rw [c3] at hE
  cases c4 : decide (1099511627776 < now)
  case true =>
    rw [c4] at hE
    repeat (refine gk (And.intro lossU (And.intro c1 (And.intro c2 (And.intro c3 c4)))) ?_)
    exact resK_sub (hw _) x3 (hno 21 (hE _ rfl) (by decide))
  rw [c4] at hE
  have hE0 := hE 0 rfl
  clear hE hno hw
  rw [ackR, ackL, if_pos hE0, if_pos hE0] at hk
  repeat (refine gk (And.intro lossU (And.intro c1 (And.intro c2 (And.intro c3 c4)))) ?_)
  (apply r_call; (focus rfl))
  refine take_spec L b 126 [ptr c] (fun p => s.any fun x => inS x p.num) l tk X ⟨g1, hT⟩ hlen (fun p H' K f hK => isin_spec L tk2 s p c H' (f.get (by simp) x1) (by omega) K hK) _ fun H' tk' k1 k2 => ?_
  repeat (refine gk lossU ?_)
  (apply r_call; (focus rfl))
  have hG : (l.opn.filter fun p => s.any fun x => inS x p.num) = ackG l s := rfl
  rw [hG]
  have hGl : (ackG l s).length ≤ 1048576 := Nat.le_trans (List.length_filter_le _ _) hlen
  have hGp : ∀ p ∈ ackG l s, pok p := fun p hm => hp p (List.mem_filter.mp hm).1
  have hS : ackS l s now = smp (ackG l s) s[s.length - 1].hi l.big now := by rw [ackS, hto]
  generalize hg : ackG l s = G at hGl hGp hS ⊢
  refine hasP_spec L 128 [] (·.asks) .no G hGl H' (fun p K hK => asks1_spec L p _ _ hK) _ ?_
  have c3' : l.last.at' ≤ now := by simpa using c3
  have c4' : now ≤ 1099511627776 := by simpa using c4
  obtain ⟨k3, k4⟩ := k2
  have hfin : ∀ X3, X3 b = some (.obj ((ackN l s).cells tk')) → Fr [b] H' X3 → K (encA (G, (ackS l s now).1, (ackS l s now).2, 0)) X3 := fun X3 z1 z2 => by
    rw [hg] at hk
    refine hk X3 tk' ⟨(x2.mono (by simp)).trans (k1.fr.trans (z2.mono (by simp))), fun a ha => ?_⟩ ⟨z1, k4.fr' z2 (fun a ha => by simpa using k4.ne' k3 a ha)⟩
    rcases k1.nw a ha with h3 | h3
    · exact .inl h3
    · right
      cases hx : H a with
      | none => rfl
      | some r => rw [x2.get (by simp) hx] at h3; cases h3
  have hcell : ∀ (X3 : Heap), X3 b = some (.obj [.sl tk' 4 ((l.opn.filter fun p => !(s.any fun x => inS x p.num)).map enc), I l.last.num, I l.last.at', I l.last.size, B l.last.asks, B true, I (max l.big s[s.length - 1].hi)]) → X3 b = some (.obj ((ackN l s).cells tk')) := fun X3 hx => by rw [hx, ackN, Led.cells, hto, c1]
  rcases Nat.eq_zero_or_pos G.length with hz | hz
  · have d1 : decide ((0 : Int) < (G.length : Int)) = false := by simp [hz]
    have hn : G = [] := List.length_eq_zero_iff.mp hz
    rw [hn] at hS
    rw [show smp [] s[s.length - 1].hi l.big now = (0, false) from rfl] at hS
    rw [hS] at hfin
    have hq : (G.any (·.asks)) = false := by rw [hn]; rfl
    repeat (refine gk (And.intro lossU (And.intro d1 c1)) ?_)
    refine sxk lossU ?_
    intro X3 z1 z2
    repeat (refine gk lossU ?_)
    exact resK_some (hfin X3 (hcell X3 (by rw [z1, c1])) z2)
  · have d1 : decide ((0 : Int) < (G.length : Int)) = true := by simpa using hz
    have hi : G.length - 1 < G.length := by omega
    have hq := hGp _ (List.getElem_mem hi)
    unfold pok at hq
    have hl : G.getLast? = some (G[G.length - 1]'hi) := by
      rw [List.getLast?_eq_getElem?]; simp [hz]
    rw [smp, hl] at hS
    simp only at hS
    cases d2 : G.any (·.asks)
    case false =>
      rw [d2] at hS
      rw [show ackS l s now = (0, false) from hS] at hfin
      repeat (refine gk (And.intro lossU (And.intro d1 c1)) ?_)
      refine sxk lossU ?_
      intro X3 z1 z2
      repeat (refine gk lossU ?_)
      exact resK_some (hfin X3 (hcell X3 (by rw [z1, c1])) z2)
    rw [d2] at hS
    repeat (refine gk (And.intro lossU d1) ?_)
    (apply r_idx (j := G.length - 1); (focus rfl); (focus rfl); (focus omega); (focus (first | exact get_enc (by omega) | assumption | rfl | (simp only [get_enc, *] <;> rfl))); (focus (simp only [lossU, nf, Nat.reduceAdd, Nat.reduceLeDiff] <;> rfl)))
    cases d3 : ((G[G.length - 1]'hi).num == s[s.length - 1].hi)
    case false =>
      rw [d3] at hS
      rw [show ackS l s now = (0, false) from hS] at hfin
      repeat (refine gk (And.intro lossU d3) ?_)
      refine sxk lossU ?_
      intro X3 z1 z2
      repeat (refine gk lossU ?_)
      exact resK_some (hfin X3 (hcell X3 (by rw [z1, c1])) z2)
    rw [d3] at hS
    cases d4 : decide (l.big < s[s.length - 1].hi)
    case false =>
      rw [d4] at hS
      rw [show ackS l s now = (0, false) from hS] at hfin
      repeat (refine gk (And.intro lossU (And.intro d3 d4)) ?_)
      refine sxk lossU ?_
      intro X3 z1 z2
      repeat (refine gk lossU ?_)
      exact resK_some (hfin X3 (hcell X3 (by rw [z1, c1])) z2)
    rw [d4] at hS
    rw [show ackS l s now = (now - (G[G.length - 1]'hi).at', true) from hS] at hfin
    repeat (refine gk (And.intro lossU (And.intro d3 d4)) ?_)
    (apply r_idx (j := G.length - 1); (focus rfl); (focus rfl); (focus omega); (focus (first | exact get_enc (by omega) | assumption | rfl | (simp only [get_enc, *] <;> rfl))); (focus (simp only [lossU, nf, Nat.reduceAdd, Nat.reduceLeDiff] <;> rfl)))
    repeat (refine gk (And.intro lossU (And.intro d3 d4)) ?_)
    refine sxk lossU ?_
    intro X3 z1 z2
    repeat (refine gk lossU ?_)
    exact resK_some (hfin X3 (hcell X3 (by rw [z1, c1])) z2)
end Sm
