/-
  A layer of one's own: texts T11,T12,T13,T14,T15.
-/
import Derived.Test.YtmdfajhlofhmcaaDoorSmTB
set_option linter.unusedVariables false
set_option linter.unusedSimpArgs false
set_option maxRecDepth 10000
set_option maxHeartbeats 1000000
namespace Sm
open Go
-- BASE entU
attribute [local irreducible] csem rsem dsem seqK blockK normK finK DK RK JK BR G3 resK Spec Tok Fr

end Sm

set_option linter.unusedVariables false
set_option linter.unusedSimpArgs false
set_option maxRecDepth 10000
set_option maxHeartbeats 1000000
namespace Sm
open Go
-- BASE entU
/-- The cells of entries, one behind the other. -/
def cE (e : Ent) : List HV := [S e.path, B e.dir, .sl .no 1 (e.data.map U)]
def cellsE (l : List Ent) : List HV := l.flatMap cE
attribute [local irreducible] csem rsem dsem seqK blockK normK finK DK RK JK BR G3 resK Spec Tok Fr

end Sm

set_option linter.unusedVariables false
set_option linter.unusedSimpArgs false
set_option maxRecDepth 10000
set_option maxHeartbeats 1000000
namespace Sm
open Go
-- BASE entU
section
variable {S' : SpecT} {sl : List (Nat × EV)} {bx : List (Nat × List HV)} {H : Heap} {K : Env → Heap → Prop} {os : List SOper} {d : Nat}
/-- An append onto a slice that is an object. -/
theorem r_appO {sz bytes : Nat} {x y : Opd} {b off n c m : Nat} {yv : HV} {cs ys : List HV} (hx : (M sl bx).hv x = some (.v (.slice (some ⟨b, off, none⟩) n c))) (hy : (M sl bx).hv y = some yv) (hr : rdm H sz yv = some (m, ys)) (hb : H b = some (.obj cs))
    (hn : n ≤ c) (hl : off + c * sz ≤ cs.length) (hm : (n + m) * bytes ≤ 140737488355328)
    (hk1 : n + m ≤ c → ∀ X, X b = some (.obj (setL cs (off + n * sz) ys)) → Fr [b] H X → rsem S' os (M ((d, .h (.v (.slice (some ⟨b, off, none⟩) (n + m) c))) :: sl) bx) X K)
    (hk2 : c < n + m → ∀ b' c' zs X, H b' = none → n + m ≤ c' → c' ≤ maxLen → zs.length = (c' - (n + m)) * sz → zs.all HV.one = true → X b' = some (.obj (((cs.drop off).take (n * sz) ++ ys) ++ zs)) → Fr [] H X → rsem S' os (M ((d, .h (.v (.slice (some ⟨b', 0, none⟩) (n + m) c'))) :: sl) bx) X K) :
    rsem S' (⟨some d, .app sz bytes x y, none⟩ :: os) (M sl bx) H K := by
  rw [rsem_cons]
  refine .inr ?_
  simp only [hx, hy, appK, hr]
  refine ⟨cs, hb, hn, hl, fun h => ?_, fun h => ⟨hm, fun b' c' zs h1 h2 h3 h4 h5 => ?_⟩⟩
  · rw [rK_app, M_put]; exact hk1 h _ (Heap.upd_same _ _ _) (Fr.set (by simp))
  · dsimp only; rw [rK_app, M_put]; exact hk2 h b' c' zs _ h1 h2 h3 h4 h5 (Heap.upd_same _ _ _) (Fr.new h1)
/-- An append onto an empty literal, as an object. -/
theorem r_appE {sz bytes : Nat} {x y : Opd} {m : Nat} {yv : HV} {ys : List HV} (hx : (M sl bx).hv x = some (.sl .full sz [])) (hy : (M sl bx).hv y = some yv) (hr : rdm H sz yv = some (m, ys)) (h0 : m ≠ 0) (hm : m * bytes ≤ 140737488355328)
    (hk2 : ∀ b' c' zs X, H b' = none → m ≤ c' → c' ≤ maxLen → zs.length = (c' - m) * sz → zs.all HV.one = true → X b' = some (.obj (ys ++ zs)) → Fr [] H X → rsem S' os (M ((d, .h (.v (.slice (some ⟨b', 0, none⟩) m c'))) :: sl) bx) X K) :
    rsem S' (⟨some d, .app sz bytes x y, none⟩ :: os) (M sl bx) H K := by
  rw [rsem_cons]
  refine .inr ?_
  simp only [hx, hy, appK, hr, List.length_nil, Nat.zero_add, List.flatMap_nil, List.nil_append]
  refine ⟨trivial, fun h => absurd h h0, fun _ => ⟨hm, fun b' c' zs h1 h2 h3 h4 h5 => ?_⟩⟩
  dsimp only; rw [rK_app, M_put]; exact hk2 b' c' zs _ h1 h2 h3 h4 h5 (Heap.upd_same _ _ _) (Fr.new h1)
theorem r_copyO {sz : Nat} {x y : Opd} {b off n c m : Nat} {yv : HV} {cs ys : List HV} (hx : (M sl bx).hvs [x, y] = some [.v (.slice (some ⟨b, off, none⟩) n c), yv]) (hr : rdm H sz yv = some (m, ys)) (hb : H b = some (.obj cs)) (hl : off + n * sz ≤ cs.length)
    (hk : ∀ X, X b = some (.obj (setL cs off (ys.take (min m n * sz)))) → Fr [b] H X → rsem S' os (M ((d, .h (I (min m n : Nat))) :: sl) bx) X K) : rsem S' (⟨some d, .hop (.copy sz) [x, y], none⟩ :: os) (M sl bx) H K := by
  rw [rsem_cons]
  simp only [SOp.step, hx, hopK, hr, hb]
  refine ⟨hl, ?_⟩
  rw [rK_app, M_put]; exact hk _ (Heap.upd_same _ _ _) (Fr.set (by simp))
end
theorem Fr.make2 {bs : List Nat} {H H' : Heap} (h : ∀ a r, a ∉ bs → H a = some r → H' a = some r) : Fr bs H H' := h
/-- Entries that are an object of one's own. -/
structure OL (H : Heap) (b n c : Nat) (l : List Ent) : Prop where
  ob : ∃ zs, H b = some (.obj (cellsE l ++ zs)) ∧ zs.length = (c - n) * 3 ∧ zs.all HV.one = true
  len : l.length = n
  nc : n ≤ c
  cm : c ≤ maxLen
attribute [local irreducible] csem rsem dsem seqK blockK normK finK DK RK JK BR G3 resK Spec Tok Fr

end Sm

set_option linter.unusedVariables false
set_option linter.unusedSimpArgs false
set_option maxRecDepth 10000
set_option maxHeartbeats 1000000
namespace Sm
open Go
-- BASE entU
section
variable {S' : SpecT} {sl : List (Nat × EV)} {bx : List (Nat × List HV)} {H : Heap} {K : Env → Heap → Prop} {os : List SOper} {d : Nat}
end
attribute [local irreducible] csem rsem dsem seqK blockK normK finK DK RK JK BR G3 resK Spec Tok Fr

end Sm

set_option linter.unusedVariables false
set_option linter.unusedSimpArgs false
set_option maxRecDepth 10000
set_option maxHeartbeats 1000000
namespace Sm
open Go
-- BASE entU
theorem Fr.none {H H' : Heap} {b : Nat} (h : Fr [] H H') (hb : H' b = none) : H b = none := by
  cases e : H b with
  | none => rfl
  | some r => have := h b r (by simp) e; rw [hb] at this; cases this
attribute [local irreducible] csem rsem dsem seqK blockK normK finK DK RK JK BR G3 resK Spec Tok Fr

/-- Where an entry that is not there yet belongs. -/
def insAt (l : List Ent) (x : Ent) : Nat := if firstIdx (fun y => lessP x.path y.path) l < 0 then l.length else (firstIdx (fun y => lessP x.path y.path) l).toNat
def putL (l : List Ent) (x : Ent) : List Ent := if firstIdx (fun e => e.path == x.path) l < 0 then l.take (insAt l x) ++ x :: l.drop (insAt l x) else l.set (firstIdx (fun e => e.path == x.path) l).toNat x
def putR (l : List Ent) (x : Ent) : List Ent × Int := if chkT l ≠ 0 then ([], chkT l) else if (l.find? (fun e => e.path == x.path)).any (fun e => e.dir != x.dir) then ([], 9) else if chkT (putL l x) ≠ 0 then ([], chkT (putL l x)) else (putL l x, 0)
end Sm
