/-
  A layer of one's own: texts T16,T17,T18,T19,T20,TW.
-/
import Derived.Test.YtmdfajhlofhmcaaDoorSmTC
set_option linter.unusedVariables false
set_option linter.unusedSimpArgs false
set_option maxRecDepth 10000
set_option maxHeartbeats 1000000
namespace Sm
open Go
-- BASE entU
/-- A list without an entry. -/
def cutL (l : List Ent) (p : List UInt8) : List Ent := l.take (firstIdx (fun e => e.path == p) l).toNat ++ l.drop ((firstIdx (fun e => e.path == p) l).toNat + 1)
def remR (l : List Ent) (p : List UInt8) : List Ent × Int := if chkT l ≠ 0 then ([], chkT l) else match l.find? (fun e => e.path == p) with
  | none => ([], 8)
  | some e => if e.dir && decide (0 < (chl l p).length) then ([], 10) else (cutL l p, 0)
attribute [local irreducible] csem rsem dsem seqK blockK normK finK DK RK JK BR G3 resK Spec Tok Fr

end Sm

set_option linter.unusedVariables false
set_option linter.unusedSimpArgs false
set_option maxRecDepth 10000
set_option maxHeartbeats 1000000
namespace Sm
open Go
-- BASE entU
def rremR (l : List Ent) (p : List UInt8) : List Ent × Int := if chkT l ≠ 0 then ([], chkT l) else if (getR l p).2 = false then ([], 8) else if (getR l p).1.dir && decide (0 < (chl l p).length) then ([], 10) else (l.filter (fun e => !(e.path == p)), 0)
attribute [local irreducible] csem rsem dsem seqK blockK normK finK DK RK JK BR G3 resK Spec Tok Fr

end Sm

set_option linter.unusedVariables false
set_option linter.unusedSimpArgs false
set_option maxRecDepth 10000
set_option maxHeartbeats 1000000
namespace Sm
open Go
-- BASE entU
/-- The reference's step: first the new entry, if it is due, then the old one. -/
def st1 (x : Ent) (s : List Ent × Bool) (e : Ent) : List Ent × Bool := if !s.2 && !lessP e.path x.path then (s.1 ++ [x], true) else s
def st2 (x : Ent) (s : List Ent × Bool) (e : Ent) : List Ent × Bool := if e.path == x.path then s else (s.1 ++ [e], s.2)
def rout (l : List Ent) (x : Ent) (i : Nat) : List Ent × Bool := (l.take i).foldl (fun s e => st2 x (st1 x s e) e) ([], false)
def rputL (l : List Ent) (x : Ent) : List Ent := if (rout l x l.length).2 then (rout l x l.length).1 else (rout l x l.length).1 ++ [x]
def rputR (l : List Ent) (x : Ent) : List Ent × Int := if chkT l ≠ 0 then ([], chkT l) else if (getR l x.path).2 && !((getR l x.path).1.dir == x.dir) then ([], 9) else if chkT (rputL l x) ≠ 0 then ([], chkT (rputL l x)) else (rputL l x, 0)
attribute [local irreducible] csem rsem dsem seqK blockK normK finK DK RK JK BR G3 resK Spec Tok Fr

end Sm

set_option linter.unusedVariables false
set_option linter.unusedSimpArgs false
set_option maxRecDepth 10000
set_option maxHeartbeats 1000000
namespace Sm
open Go
-- BASE entU
attribute [local irreducible] csem rsem dsem seqK blockK normK finK DK RK JK BR G3 resK Spec Tok Fr
end Sm

set_option linter.unusedVariables false
set_option linter.unusedSimpArgs false
set_option maxRecDepth 10000
set_option maxHeartbeats 1000000
namespace Sm
open Go
-- BASE entU
/-- Is a list light enough? -/
def lightR (k : Nat) : Nat → List Ent → Bool
  | _, [] => true
  | s, e :: r => if 1000 < e.path.length then false else if k < s + min e.data.length (k + 1) then false else lightR k (s + min e.data.length (k + 1)) r
def light (l : List Ent) (n k : Nat) : Bool := if n < l.length then false else lightR k 0 l
attribute [local irreducible] csem rsem dsem seqK blockK normK finK DK RK JK BR G3 resK Spec Tok Fr
end Sm

set_option linter.unusedVariables false
set_option linter.unusedSimpArgs false
set_option maxRecDepth 10000
set_option maxHeartbeats 1000000
namespace Sm
open Go
-- BASE entU
theorem rep_weakL {ν : Nat → Option Nat} {K : Nat → Nat} {w : World} : ∀ {hs hs' : List HV} {us : List Value}, WeakL hs hs' → repL ν K w hs us → repL ν K w hs' us
  | [], [], us, _, h => h
  | a :: as, b :: bs, us, hw, h => by
    simp only [repL] at h ⊢
    obtain ⟨u, us', h1, h2, h3⟩ := h
    exact ⟨u, us', h1, hw.1 _ _ _ _ h2, rep_weakL hw.2 h3⟩
  | [], _ :: _, us, hw, h => absurd hw (by simp [WeakL])
  | _ :: _, [], us, hw, h => absurd hw (by simp [WeakL])
theorem Spec_weak {P : Program} {ν : Nat → Option Nat} {g : Nat} {hs hs' : List HV} {H : Heap} {K : HV → Heap → Prop} (hw : WeakL hs hs') (h : Spec P ν g hs' H K) : Spec P ν g hs H K :=
  fun n hn w K us h1 h2 => h n hn w K us h1 (rep_weakL hw h2)
theorem WeakL.len : ∀ {as bs : List HV}, WeakL as bs → as.length = bs.length
  | [], [], _ => rfl
  | a :: as, b :: bs, h => by simp [WeakL.len h.2]
  | [], _ :: _, h => absurd h (by simp [WeakL])
  | _ :: _, [], h => absurd h (by simp [WeakL])
theorem Weak.els {tk : Tk} {sz : Nat} {as bs : List HV} (hw : WeakL as bs) (g1 : bs.all HV.el = true) (g2 : ∀ e ∈ bs, e.ncells = sz) : Weak (.sl tk sz as) (.sl .no sz bs) := by
  intro ν K w u hr
  simp only [rep] at hr ⊢
  obtain ⟨A, cap, vals, h1, h2, h3, h4, h5, h6, h7, h8⟩ := hr
  have hl := hw.len
  rw [hl] at h1 h2 h8
  refine ⟨A, cap, vals, h1, h2, h3, trivial, g1, g2, rep_weakL hw h7, ?_⟩
  rcases h8 with h8 | h8
  · subst h8; exact .inl (List.length_eq_zero_iff.mp (by simpa using hl.symm))
  · exact .inr h8
section
variable {S' : SpecT} {sl : List (Nat × EV)} {bx : List (Nat × List HV)} {H : Heap} {K : Env → Heap → Prop} {os : List SOper} {d : Nat}
theorem r_bsl {sz : Nat} {ps : List Opd} {hs : List HV} (hp : (M sl bx).hvs ps = some hs) (h1 : hs.all HV.el = true) (h2 : ∀ h ∈ hs, h.ncells = sz)
    (hk : ∀ b X, H b = none → X b = some (.obj (hs.flatMap HV.cells)) → Fr [] H X → rsem S' os (M ((d, .h (.v (.slice (some ⟨b, 0, none⟩) hs.length hs.length))) :: sl) bx) X K) : rsem S' (⟨some d, .hop (.bsl sz) ps, none⟩ :: os) (M sl bx) H K := by
  rw [rsem_cons]
  simp only [SOp.step, hp, hopK]
  refine ⟨h1, h2, fun b hb => ?_⟩
  rw [rK_app, M_put]; exact hk b _ hb (Heap.upd_same _ _ _) (Fr.new hb)
theorem r_mark {x : Opd} {b n c : Nat} {cs : List HV} (hx : (M sl bx).hvs [x] = some [.v (.slice (some ⟨b, 0, none⟩) n c)]) (hb : H b = some (.obj cs)) (hn : cs.length = n) (hc : n ≤ c) (hm : c ≤ maxLen)
    (hk : rsem S' os (M ((d, .h (.sl .no 1 cs)) :: sl) bx) (H.upd b none) K) : rsem S' (⟨some d, .hop .mark [x], none⟩ :: os) (M sl bx) H K := by
  rw [rsem_cons]
  simp only [SOp.step, hx, hopK]
  refine ⟨cs, hb, hn, hc, hm, ?_⟩
  rw [rK_app, M_put]; exact hk
end
end Sm
