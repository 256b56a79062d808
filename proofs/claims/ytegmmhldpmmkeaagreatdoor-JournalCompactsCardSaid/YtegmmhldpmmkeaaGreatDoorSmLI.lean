/-
  Bw
-/
import Derived.Test.YtegmmhldpmmkeaaGreatDoorSmLF
set_option linter.unusedVariables false
set_option linter.unusedSimpArgs false
set_option linter.unnecessarySimpa false
namespace Sm
open Go
def VW (H : Heap) (x y : HV) : Prop := ∀ ν K w u, (∀ b cs, H b = some (.obj cs) → Froz ν K w b cs) → rep ν K w x u → rep ν K w y u
def VWL (H : Heap) : List HV → List HV → Prop
 | [], [] => True
 | x :: xs, y :: ys => VW H x y ∧ VWL H xs ys
 | _, _ => False
theorem VWL.rep {H : Heap} {ν K w} (hf : ∀ b cs, H b = some (.obj cs) → Froz ν K w b cs) : ∀ {xs ys : List HV} {us : List Value}, VWL H xs ys → repL ν K w xs us → repL ν K w ys us
 | [], [], us, _, h => h
 | x :: xs, y :: ys, us, hw, h => by
   simp only [repL] at h ⊢
   obtain ⟨u, us', h1, h2, h3⟩ := h
   exact ⟨u, us', h1, hw.1 _ _ _ _ hf h2, VWL.rep hf hw.2 h3⟩
 | [], _ :: _, _, hw, _ => hw.elim
 | _ :: _, [], _, hw, _ => hw.elim
theorem VW.refl (H : Heap) (x : HV) : VW H x x := fun _ _ _ _ _ h => h
theorem VWL.refl (H : Heap) : ∀ xs : List HV, VWL H xs xs
 | [] => trivial
 | x :: xs => ⟨VW.refl H x, VWL.refl H xs⟩
theorem VWL.length {H : Heap} : ∀ {xs ys : List HV}, VWL H xs ys → xs.length = ys.length
 | [], [], _ => rfl
 | x :: xs, y :: ys, h => by simp [VWL.length h.2]
 | [], _ :: _, h => h.elim
 | _ :: _, [], h => h.elim
theorem VWL.map {α : Type} {H : Heap} {f g : α → HV} : ∀ {l : List α}, (∀ a ∈ l, VW H (f a) (g a)) → VWL H (l.map f) (l.map g)
 | [], _ => trivial
 | a :: l, h => ⟨h a (by simp), VWL.map fun b hb => h b (by simp [hb])⟩
def noR : Heap := fun _ => none
theorem Spec.give {P : Program} {ν : Nat → Option Nat} {g : Nat} {args : List HV} {H : Heap} {Q : HV → Heap → Prop}
   (h : Spec P ν g args H fun r X => Q r X ∨ (∃ r', Weak r r' ∧ Q r' X) ∨ ∃ b cs r', X b = some (.obj cs) ∧ FW b cs r r' ∧ Q r' (X.upd b none)) : Spec P ν g args H Q := by
 intro n hn w K us hs hr
 refine (h n hn w K us hs hr).mono fun e w' ⟨u, r, X, K', e1, e2, e3, e4, e5⟩ => ?_
 rcases e5 with e5 | ⟨r', h1, h2⟩ | ⟨b, cs, r', hb, hf, hQ⟩
 · exact ⟨u, r, X, K', e1, e2, e3, e4, e5⟩
 · exact ⟨u, r', X, K', e1, h1 _ _ _ _ e2, e3, e4, h2⟩
 · obtain ⟨vs, T, r1, r2, r3, r4⟩ := e3.res b _ hb
   have hlt := e3.lt hb
   let K2 : Nat → Nat := fun i => if i = b then vs.size else K' i
   have kb : K2 b = vs.size := by simp [K2]
   have kn : ∀ i, i ≠ b → K2 i = K' i := fun i hi => by simp [K2, hi]
   have hg : Grow w' K' w' K2 := ⟨fun i => by
     by_cases hi : i = b
     · subst hi; rw [r2]; exact Nat.zero_le _
     · rw [kn i hi]; exact Nat.le_refl _, fun _ _ _ => rfl⟩
   have hfz : Froz ν K2 w' b cs := ⟨vs.toList.take cs.length, cellsAt_take (cellsAt_block r1) _, r3.grow hg, by rw [kb, List.length_take]; simp; omega, r4⟩
   refine ⟨u, r', X.upd b none, K2, e1, hf _ _ _ _ hfz (rep.grow hg _ e2), ⟨fun i q hi => ?_, fun i hi => ?_, e3.tab.grow hg⟩, ⟨e4.os, e4.tape, e4.output, e4.size, e4.drawn, e4.grow.trans hg, fun i hi hH => ?_⟩, hQ⟩
   · by_cases hib : i = b
     · subst hib; rw [Heap.upd_same] at hi; cases hi
     · rw [Heap.upd_ne _ _ hib] at hi
       exact (e3.res i q hi).move hg rfl (kn i hib)
   · rw [kn i (by omega)]; exact e3.fresh i hi
   · obtain ⟨s1, s2, s3⟩ := e4.same i hi hH
     have hib : i ≠ b := by rintro rfl; rw [hb] at s3; cases s3
     exact ⟨s1, (kn i hib).trans s2, by rw [Heap.upd_ne _ _ hib]; exact s3⟩
theorem Spec.lay {P : Program} {ν : Nat → Option Nat} {g : Nat} {args args' : List HV} {X : Heap} {b : Nat} {cs : List HV} {Q : HV → Heap → Prop} (hb : X b = some (.obj cs)) (hf : FWL b cs args args')
   (h : Spec P ν g args' (X.upd b none) Q) : Spec P ν g args X Q := by
 intro n hn w K us hs hr
 obtain ⟨vs, T, r1, r2, r3, r4⟩ := hs.res b _ hb
 have hlt := hs.lt hb
 let K2 : Nat → Nat := fun i => if i = b then vs.size else K i
 have kb : K2 b = vs.size := by simp [K2]
 have kn : ∀ i, i ≠ b → K2 i = K i := fun i hi => by simp [K2, hi]
 have hg : Grow w K w K2 := ⟨fun i => by
   by_cases hi : i = b
   · subst hi; rw [r2]; exact Nat.zero_le _
   · rw [kn i hi]; exact Nat.le_refl _, fun _ _ _ => rfl⟩
 have hfz : Froz ν K2 w b cs := ⟨vs.toList.take cs.length, cellsAt_take (cellsAt_block r1) _, r3.grow hg, by rw [kb, List.length_take]; simp; omega, r4⟩
 have hs2 : hsat ν w K2 (X.upd b none) := ⟨fun i q hi => by
   by_cases hib : i = b
   · subst hib; rw [Heap.upd_same] at hi; cases hi
   · rw [Heap.upd_ne _ _ hib] at hi
     exact (hs.res i q hi).move hg rfl (kn i hib), fun i hi => by rw [kn i (by omega)]; exact hs.fresh i hi, hs.tab.grow hg⟩
 refine (h n hn w K2 us hs2 (FWL.rep hfz hf (repL.grow hg _ hr))).mono fun e w' ⟨u, r, X', K', e1, e2, e3, e4, e5⟩ => ?_
 refine ⟨u, r, X', K', e1, e2, e3, ⟨e4.os, e4.tape, e4.output, e4.size, e4.drawn, hg.trans e4.grow, fun i hi hX => ?_⟩, e5⟩
 have hib : i ≠ b := by rintro rfl; rw [hX] at hb; cases hb
 obtain ⟨s1, s2, s3⟩ := e4.same i hi (by rw [Heap.upd_ne _ _ hib]; exact hX)
 exact ⟨s1, s2.trans (kn i hib), s3⟩
theorem Spec.args {P : Program} {ν : Nat → Option Nat} {g : Nat} {args args' : List HV} {X : Heap} {Q : HV → Heap → Prop} (hw : WeakL args args') (h : Spec P ν g args' X Q) : Spec P ν g args X Q :=
 fun n hn w K us hs hr => h n hn w K us hs (repL_weak hw hr)
end Sm
