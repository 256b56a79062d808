/-
  T11,T12,T13,T14,T15,T16,T17,T18,T19,T20,TW
-/
import Derived.Test.YtegmmhldpmmkeaaGreatDoorSmTA
set_option linter.unusedVariables false
set_option linter.unusedSimpArgs false
set_option maxRecDepth 10000
set_option maxHeartbeats 1000000
namespace Sm
open Go
attribute [local irreducible] csem rsem dsem seqK blockK normK finK DK RK JK BR G3 resK Spec Tok Fr
end Sm
namespace Sm
open Go
def cE (e : Ent) : List HV := [S e.path, B e.dir, .sl .no 1 (e.data.map U)]
def cellsE (l : List Ent) : List HV := l.flatMap cE
theorem setL_mid {A X Y Z : List HV} {i : Nat} (hi : A.length = i) (hx : X.length = Y.length) : setL (A ++ X ++ Z) i Y = A ++ Y ++ Z := by
 subst hi
 rw [setL_eq _ _ _ (by simp [hx]), ← hx]
 have e1 : (A ++ X ++ Z).take A.length = A := by rw [List.append_assoc, List.take_left]
 have e2 : (A ++ X ++ Z).drop (A.length + X.length) = Z := by rw [← List.length_append, List.drop_left]
 rw [e1, e2]
attribute [local irreducible] csem rsem dsem seqK blockK normK finK DK RK JK BR G3 resK Spec Tok Fr
end Sm
namespace Sm
open Go
section
variable {S' : SpecT} {sl : List (Nat × EV)} {bx : List (Nat × List HV)} {H : Heap} {K : Env → Heap → Prop} {os : List SOper} {d : Nat}
theorem r_slcLH {sz : Nat} {x lo hi : Opd} {b off n c a e : Nat} {k j : Int} (hx : (M sl bx).hv x = some (.v (.slice (some ⟨b, off, none⟩) n c))) (h1 : (M sl bx).hv lo = some (I k)) (h2 : (M sl bx).hv hi = some (I j)) (hk : k = a) (hj : j = e) (ha : a ≤ e) (hc : a < c) (he : e ≤ c)
   (h : rsem S' os (M ((d, .h (.v (.slice (some ⟨b, off + a * sz, none⟩) (e - a) (c - a)))) :: sl) bx) H K) : rsem S' (⟨some d, .slc sz x (some lo) (some hi) none, none⟩ :: os) (M sl bx) H K := by
 subst hk hj
 refine r_slcO (l := (a : Int)) (h := (e : Int)) (m := (c : Int)) hx (by simp only [bnd, h1]) (by simp only [bnd, h2]) rfl ⟨by omega, by omega, by omega, by omega⟩ ?_
 rw [if_neg (by omega)]
 simpa using h
theorem r_appO {sz bytes : Nat} {x y : Opd} {b off n c m : Nat} {yv : HV} {cs ys : List HV} (hx : (M sl bx).hv x = some (.v (.slice (some ⟨b, off, none⟩) n c))) (hy : (M sl bx).hv y = some yv) (hr : rdm H sz yv = some (m, ys)) (hb : H b = some (.obj cs))
   (hn : n ≤ c) (hl : off + c * sz ≤ cs.length) (hm : (n + m) * bytes ≤ 140737488355328)
   (hk1 : n + m ≤ c → ∀ X, X b = some (.obj (setL cs (off + n * sz) ys)) → Fr [b] H X → rsem S' os (M ((d, .h (.v (.slice (some ⟨b, off, none⟩) (n + m) c))) :: sl) bx) X K)
   (hk2 : c < n + m → ∀ b' c' zs X, H b' = none → n + m ≤ c' → c' ≤ maxLen → zs.length = (c' - (n + m)) * sz → zs.all HV.one = true → X b' = some (.obj (((cs.drop off).take (n * sz) ++ ys) ++ zs)) → Fr [] H X → rsem S' os (M ((d, .h (.v (.slice (some ⟨b', 0, none⟩) (n + m) c'))) :: sl) bx) X K) :
   rsem S' (⟨some d, .app sz bytes x y, none⟩ :: os) (M sl bx) H K := by
 rw [rsem_cons]
 refine .inr ?_
 simp only [hx, hy, appK, hr]
 refine ⟨cs, hb, hn, hl, fun h => ?_, fun h => ⟨hm, fun b' c' zs h1 h2 h3 h4 h5 => ?_⟩⟩
 · rw [rK_app, M_put]; exact hk1 h _ (Heap.upd_same _ _ _) (Fr.set (by simp))
 · dsimp only; rw [rK_app, M_put]; exact hk2 h b' c' zs _ h1 h2 h3 h4 h5 (Heap.upd_same _ _ _) (Fr.new h1)
theorem r_appE {sz bytes : Nat} {x y : Opd} {m : Nat} {yv : HV} {ys : List HV} (hx : (M sl bx).hv x = some (.sl .full sz [])) (hy : (M sl bx).hv y = some yv) (hr : rdm H sz yv = some (m, ys)) (h0 : m ≠ 0) (hm : m * bytes ≤ 140737488355328)
   (hk2 : ∀ b' c' zs X, H b' = none → m ≤ c' → c' ≤ maxLen → zs.length = (c' - m) * sz → zs.all HV.one = true → X b' = some (.obj (ys ++ zs)) → Fr [] H X → rsem S' os (M ((d, .h (.v (.slice (some ⟨b', 0, none⟩) m c'))) :: sl) bx) X K) :
   rsem S' (⟨some d, .app sz bytes x y, none⟩ :: os) (M sl bx) H K := by
 rw [rsem_cons]
 refine .inr ?_
 simp only [hx, hy, appK, hr, List.length_nil, Nat.zero_add, List.flatMap_nil, List.nil_append]
 refine ⟨trivial, fun h => absurd h h0, fun _ => ⟨hm, fun b' c' zs h1 h2 h3 h4 h5 => ?_⟩⟩
 dsimp only; rw [rK_app, M_put]; exact hk2 b' c' zs _ h1 h2 h3 h4 h5 (Heap.upd_same _ _ _) (Fr.new h1)
theorem r_copyO {sz : Nat} {x y : Opd} {b off n c m : Nat} {yv : HV} {cs ys : List HV} (hx : (M sl bx).hvs [x, y] = some [.v (.slice (some ⟨b, off, none⟩) n c), yv]) (hr : rdm H sz yv = some (m, ys)) (hb : H b = some (.obj cs)) (hl : off + n * sz ≤ cs.length)
   (hk : ∀ X, X b = some (.obj (setL cs off (ys.take (min m n * sz)))) → Fr [b] H X → rsem S' os (M ((d, .h (I (min m n : Nat))) :: sl) bx) X K) : rsem S' (⟨some d, .hop (.copy sz) [x, y], none⟩ :: os) (M sl bx) H K := by
 rw [rsem_cons]
 simp only [SOp.step, hx, hopK, hr, hb]
 refine ⟨hl, ?_⟩
 rw [rK_app, M_put]; exact hk _ (Heap.upd_same _ _ _) (Fr.set (by simp))
end
theorem Fr.make2 {bs : List Nat} {H H' : Heap} (h : ∀ a r, a ∉ bs → H a = some r → H' a = some r) : Fr bs H H' := h
structure OL (H : Heap) (b n c : Nat) (l : List Ent) : Prop where
 ob : ∃ zs, H b = some (.obj (cellsE l ++ zs)) ∧ zs.length = (c - n) * 3 ∧ zs.all HV.one = true
 len : l.length = n
 nc : n ≤ c
 cm : c ≤ maxLen
attribute [local irreducible] csem rsem dsem seqK blockK normK finK DK RK JK BR G3 resK Spec Tok Fr
end Sm
namespace Sm
open Go
section
variable {S' : SpecT} {sl : List (Nat × EV)} {bx : List (Nat × List HV)} {H : Heap} {K : Env → Heap → Prop} {os : List SOper} {d : Nat}
theorem r_clrO {sz : Nat} {zero : List HV} {x : Opd} {b off n c : Nat} {cs : List HV} (hx : (M sl bx).hv x = some (.v (.slice (some ⟨b, off, none⟩) n c))) (hb : H b = some (.obj cs)) (hl : off + n * sz ≤ cs.length) (h4 : zero.length = sz)
   (hk : ∀ X, X b = some (.obj (setL cs off (List.replicate n zero).flatten)) → Fr [b] H X → rsem S' os (M sl bx) X K) : rsem S' (⟨none, .hop (.clear sz zero) [x], none⟩ :: os) (M sl bx) H K := by
 rw [rsem_cons]
 have hh : (M sl bx).hvs [x] = some [.v (.slice (some ⟨b, off, none⟩) n c)] := by simp [Env.hvs, hx]
 simp only [SOp.step, hh, hopK, hb]
 exact ⟨hl, h4, hk _ (Heap.upd_same _ _ _) (Fr.set (by simp))⟩
end
attribute [local irreducible] csem rsem dsem seqK blockK normK finK DK RK JK BR G3 resK Spec Tok Fr
end Sm
namespace Sm
open Go
theorem c_joinV {S : SpecT} {e : Env} {H : Heap} {Q : SEx → Env → Heap → Prop} {ι : Type} (hS : SMono S) {a b : SC} (E : ι → List (Nat × EV)) (F : ι → List (Nat × List HV)) (J : ι → Heap → Prop) (h1 : csem S a e H (JK E F J Q)) (h2 : ∀ i H, J i H → ∃ e1 H1, VS (M (E i) (F i)) H e1 H1 ∧ csem S b e1 H1 Q) : csem S (.seq a b) e H Q := by
 rw [csem_seq]
 refine csem_S (fun _ _ _ _ h => h) hS a ?_ h1
 intro ex e' H' hk
 cases ex
 · obtain ⟨j, g1, g2⟩ := hk
   obtain ⟨e1, H1, g3, g4⟩ := h2 j H' g2
   exact ⟨e1, H1, (VS.le g1).trans g3, g4⟩
 · exact hk
 · exact hk
attribute [local irreducible] csem rsem dsem seqK blockK normK finK DK RK JK BR G3 resK Spec Tok Fr
end Sm
namespace Sm
open Go
attribute [local irreducible] csem rsem dsem seqK blockK normK finK DK RK JK BR G3 resK Spec Tok Fr
end Sm
namespace Sm
open Go
attribute [local irreducible] csem rsem dsem seqK blockK normK finK DK RK JK BR G3 resK Spec Tok Fr
end Sm
namespace Sm
open Go
attribute [local irreducible] csem rsem dsem seqK blockK normK finK DK RK JK BR G3 resK Spec Tok Fr
end Sm
namespace Sm
open Go
attribute [local irreducible] csem rsem dsem seqK blockK normK finK DK RK JK BR G3 resK Spec Tok Fr
end Sm
namespace Sm
open Go
attribute [local irreducible] csem rsem dsem seqK blockK normK finK DK RK JK BR G3 resK Spec Tok Fr
end Sm
namespace Sm
open Go
theorem rep_weakL {ν : Nat → Option Nat} {K : Nat → Nat} {w : World} : ∀ {hs hs' : List HV} {us : List Value}, WeakL hs hs' → repL ν K w hs us → repL ν K w hs' us
 | [], [], us, _, h => h
 | a :: as, b :: bs, us, hw, h => by
   simp only [repL] at h ⊢
   obtain ⟨u, us', h1, h2, h3⟩ := h
   exact ⟨u, us', h1, hw.1 _ _ _ _ h2, rep_weakL hw.2 h3⟩
 | [], _ :: _, us, hw, h => absurd hw (by simp [WeakL])
 | _ :: _, [], us, hw, h => absurd hw (by simp [WeakL])
theorem Spec_weak {P : Program} {ν : Nat → Option Nat} {g : Nat} {hs hs' : List HV} {H : Heap} {K : HV → Heap → Prop} (hw : WeakL hs hs') (h : Spec P ν g hs' H K) : Spec P ν g hs H K :=
 fun n hn w K us h1 h2 => h n hn w K us h1 (rep_weakL hw h2)
theorem WeakL.len : ∀ {as bs : List HV}, WeakL as bs → as.length = bs.length
 | [], [], _ => rfl
 | a :: as, b :: bs, h => by simp [WeakL.len h.2]
 | [], _ :: _, h => absurd h (by simp [WeakL])
 | _ :: _, [], h => absurd h (by simp [WeakL])
theorem Weak.els {tk : Tk} {sz : Nat} {as bs : List HV} (hw : WeakL as bs) (g1 : bs.all HV.el = true) (g2 : ∀ e ∈ bs, e.ncells = sz) : Weak (.sl tk sz as) (.sl .no sz bs) := by
 intro ν K w u hr
 simp only [rep] at hr ⊢
 obtain ⟨A, cap, vals, h1, h2, h3, h4, h5, h6, h7, h8⟩ := hr
 have hl := hw.len
 rw [hl] at h1 h2 h8
 refine ⟨A, cap, vals, h1, h2, h3, trivial, g1, g2, rep_weakL hw h7, ?_⟩
 rcases h8 with h8 | h8
 · subst h8; exact .inl (List.length_eq_zero_iff.mp (by simpa using hl.symm))
 · exact .inr h8
section
variable {S' : SpecT} {sl : List (Nat × EV)} {bx : List (Nat × List HV)} {H : Heap} {K : Env → Heap → Prop} {os : List SOper} {d : Nat}
end
end Sm
