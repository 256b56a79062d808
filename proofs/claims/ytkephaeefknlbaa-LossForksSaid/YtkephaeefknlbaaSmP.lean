/-
  A layer of one's own: text P.
-/
import Derived.Test.YtkephaeefknlbaaSmN
set_option linter.unusedVariables false
set_option linter.unusedSimpArgs false
set_option linter.unnecessarySimpa false
namespace Sm
open Go

def SMono (S : SpecT) : Prop := ∀ g hs H (Q Q' : HV → Heap → Prop), (∀ h H', Q h H' → Q' h H') → S g hs H Q → S g hs H Q'

theorem step_mono {S : SpecT} (hS : SMono S) {e : Env} {H : Heap} {K K' : EV → Env → Heap → Prop} (hK : ∀ x e' H', K x e' H' → K' x e' H') : ∀ (o : SOp), o.step S e H K → o.step S e H K' := by
  intro o h
  cases o
  case alloc loc cs =>
    simp only [SOp.step] at h ⊢
    split at h
    · exact ⟨h.1, hK _ _ _ h.2⟩
    · exact fun b hb => hK _ _ _ (h b hb)
  case box loc n x =>
    simp only [SOp.step] at h ⊢
    split at h
    · obtain ⟨h1, h2, h3⟩ := h
      refine ⟨h1, h2, ?_⟩
      split at h3
      · exact ⟨h3.1, hK _ _ _ h3.2⟩
      · exact fun b hb => hK _ _ _ (h3 b hb)
    · exact h.elim
  case bslice sz ps =>
    simp only [SOp.step] at h ⊢
    split at h
    · exact ⟨h.1, h.2.1, hK _ _ _ h.2.2⟩
    · exact h.elim
  case store n a x =>
    simp only [SOp.step] at h ⊢
    split at h
    · obtain ⟨h1, h2, h3⟩ := h
      refine ⟨h1, h2, ?_⟩
      split at h3
      · split at h3
        · exact ⟨h3.1, hK _ _ _ h3.2⟩
        · exact h3.elim
      · split at h3
        · exact ⟨h3.1, hK _ _ _ h3.2⟩
        · exact h3.elim
      · exact h3.elim
    · exact h.elim
  case app sz bytes x y =>
    simp only [SOp.step] at h ⊢
    split at h
    · exact ⟨h.1, fun hy => hK _ _ _ (h.2.1 hy), fun hy => ⟨(h.2.2 hy).1, fun b c hb => hK _ _ _ ((h.2.2 hy).2 b c hb)⟩⟩
    · exact ⟨h.1, h.2.1, fun hy => hK _ _ _ (h.2.2.1 hy), fun hy => ⟨(h.2.2.2 hy).1, fun b c hb => hK _ _ _ ((h.2.2.2 hy).2 b c hb)⟩⟩
    · exact ⟨h.1, h.2.1, h.2.2.1, h.2.2.2.1, fun b c hb => hK _ _ _ (h.2.2.2.2 b c hb)⟩
    · exact h.elim
  case call g args =>
    simp only [SOp.step] at h ⊢
    split at h
    · exact hS _ _ _ _ _ (fun h' H' => hK _ _ _) h
    · exact h.elim
  case callv x args =>
    simp only [SOp.step] at h ⊢
    split at h
    · exact hS _ _ _ _ _ (fun h' H' => hK _ _ _) h
    · exact h.elim
  case nd f xs =>
    simp only [SOp.step] at h ⊢
    split at h
    · exact fun h' hr => hK _ _ _ (h h' hr)
    · exact h.elim
  all_goals
    simp only [SOp.step] at h ⊢
    split at h
    · exact hK _ _ _ h
    · exact h.elim

theorem rsem1_mono {S : SpecT} (hS : SMono S) {K K' : Env → Heap → Prop} (hK : ∀ e H, K e H → K' e H) (s : SOper) (e : Env) (H : Heap) (h : rsem1 S s e H K) : rsem1 S s e H K' := by
  simp only [rsem1] at h ⊢
  split at h
  · exact step_mono hS (fun x e' H' h' => hK _ _ h') _ h
  · split at h
    · exact ⟨fun hb => step_mono hS (fun x e' H' h' => hK _ _ h') _ (h.1 hb), fun hb => hK _ _ (h.2 hb)⟩
    · exact hK _ _ h
    · exact h.elim
theorem rsem_mono {S : SpecT} (hS : SMono S) {K K' : Env → Heap → Prop} (hK : ∀ e H, K e H → K' e H) : ∀ (ss : List SOper) (e : Env) (H : Heap), rsem S ss e H K → rsem S ss e H K'
  | [], e, H, h => hK _ _ h
  | s :: ss, e, H, h => rsem1_mono hS (fun e' H' h' => rsem_mono hS hK ss e' H' h') s e H h
theorem dsem_mono {S : SpecT} (hS : SMono S) {L : List DOper} {K K' : Env → Heap → Prop} (hK : ∀ e H, K e H → K' e H) : ∀ (is : List Nat) (e : Env) (H : Heap), dsem S L is e H K → dsem S L is e H K'
  | [], e, H, h => hK _ _ h
  | i :: is, e, H, h => rsem1_mono hS (fun e' H' h' => ⟨h'.1, dsem_mono hS hK is e' H' h'.2⟩) _ e H h

def SOp.opds : SOp → List Opd
  | .mv x => [x] | .pick c a b => [c, a, b] | .int _ x y => [x, y] | .str _ x y => [x, y] | .eq _ _ x y => [x, y] | .not x => [x] | .neg x => [x] | .conv _ x => [x] | .idc x => [x]
  | .alloc _ _ => [] | .box _ _ x => [x] | .build _ ps => ps.map (·.2.2) | .bslice _ ps => ps | .load _ _ x => [x] | .store _ a x => [a, x] | .nilc x => [x] | .fld _ x => [x]
  | .field _ _ _ x => [x] | .idx _ x i => [x, i] | .aidx _ _ x i => [x, i] | .sidx x i => [x, i] | .len x => [x] | .slen x => [x] | .app _ _ x y => [x, y] | .call _ xs => xs
  | .callv x xs => x :: xs | .mkfn _ xs => xs | .ext x _ => [x] | .slc _ x lo hi mx => x :: (lo.toList ++ hi.toList ++ mx.toList) | .ssl x lo hi => x :: (lo.toList ++ hi.toList) | .mm _ x y => [x, y] | .nd _ xs => xs
def SOp.isLoad : SOp → Bool
  | .load .. => true
  | _ => false

section
variable {e e' : Env} {H H' : Heap}
theorem hv_congr {x : Opd} (h : e.opd x = e'.opd x) : e.hv x = e'.hv x := by simp only [Env.hv, h]
theorem hvs_congr : ∀ {xs : List Opd}, (∀ x ∈ xs, e.opd x = e'.opd x) → e.hvs xs = e'.hvs xs
  | [], _ => rfl
  | x :: xs, h => by
    have h1 := hv_congr (h x (by simp))
    have h2 : e.hvs xs = e'.hvs xs := hvs_congr (fun y hy => h y (by simp [hy]))
    simp only [Env.hvs, h1, h2]
theorem bnd_congr {d : Nat} {x : Option Opd} (h : ∀ y ∈ x.toList, e.opd y = e'.opd y) : bnd e d x = bnd e' d x := by
  cases x with
  | none => rfl
  | some x => simp only [bnd, hv_congr (h x (by simp))]

theorem ev_congr (o : SOp) (h : ∀ x ∈ o.opds, e.opd x = e'.opd x) (hl : o.isLoad = true → e.bx = e'.bx ∧ H = H') : o.ev e H = o.ev e' H' := by
  cases o
  case build z ps =>
    simp only [SOp.ev]
    have : (ps.map fun p => (p.1, p.2.1, e.hv p.2.2)) = ps.map fun p => (p.1, p.2.1, e'.hv p.2.2) := by
      apply List.map_congr_left
      intro p hp
      rw [hv_congr (h p.2.2 (by simp only [SOp.opds, List.mem_map]; exact ⟨p, hp, rfl⟩))]
    rw [this]
  case load agg n x =>
    obtain ⟨h1, h2⟩ := hl rfl
    subst h2
    have hx := h x (by simp [SOp.opds])
    simp only [SOp.ev, hx, Env.box, h1]
  case mkfn g xs => simp only [SOp.ev, hvs_congr (fun y hy => h y (by simpa [SOp.opds] using hy))]
  case slc sz x lo hi mx =>
    have h1 := hv_congr (h x (by simp [SOp.opds]))
    have h2 : ∀ d, bnd e d lo = bnd e' d lo := fun d => bnd_congr (fun y hy => h y (by simp only [SOp.opds, List.mem_cons, List.mem_append]; exact .inr (.inl (.inl hy))))
    have h3 : ∀ d, bnd e d hi = bnd e' d hi := fun d => bnd_congr (fun y hy => h y (by simp only [SOp.opds, List.mem_cons, List.mem_append]; exact .inr (.inl (.inr hy))))
    have h4 : ∀ d, bnd e d mx = bnd e' d mx := fun d => bnd_congr (fun y hy => h y (by simp only [SOp.opds, List.mem_cons, List.mem_append]; exact .inr (.inr hy)))
    cases mx with
    | none => simp only [SOp.ev, h1, h2, h3, h4]
    | some m =>
      have h5 := hv_congr (h m (by simp [SOp.opds]))
      simp only [SOp.ev, h1, h2, h3, h4, h5]
  case ssl x lo hi =>
    have h1 := hv_congr (h x (by simp [SOp.opds]))
    have h2 : ∀ d, bnd e d lo = bnd e' d lo := fun d => bnd_congr (fun y hy => h y (by simp only [SOp.opds, List.mem_cons, List.mem_append]; exact .inr (.inl hy)))
    have h3 : ∀ d, bnd e d hi = bnd e' d hi := fun d => bnd_congr (fun y hy => h y (by simp only [SOp.opds, List.mem_cons, List.mem_append]; exact .inr (.inr hy)))
    simp only [SOp.ev, h1, h2, h3]
  case pick c a b =>
    have h1 := hv_congr (h c (by simp [SOp.opds]))
    have h2 := h a (by simp [SOp.opds])
    have h3 := h b (by simp [SOp.opds])
    simp only [SOp.ev, h1, h2, h3]
  case mv x => simp only [SOp.ev, h x (by simp [SOp.opds])]
  case nilc x => simp only [SOp.ev, h x (by simp [SOp.opds])]
  case fld off x => simp only [SOp.ev, h x (by simp [SOp.opds])]
  case aidx l sz x i => simp only [SOp.ev, h x (by simp [SOp.opds]), hv_congr (h i (by simp [SOp.opds]))]
  case not x => simp only [SOp.ev, hv_congr (h x (by simp [SOp.opds]))]
  case neg x => simp only [SOp.ev, hv_congr (h x (by simp [SOp.opds]))]
  case conv k x => simp only [SOp.ev, hv_congr (h x (by simp [SOp.opds]))]
  case idc x => simp only [SOp.ev, hv_congr (h x (by simp [SOp.opds]))]
  case field agg off n x => simp only [SOp.ev, hv_congr (h x (by simp [SOp.opds]))]
  case len x => simp only [SOp.ev, hv_congr (h x (by simp [SOp.opds]))]
  case slen x => simp only [SOp.ev, hv_congr (h x (by simp [SOp.opds]))]
  case ext x i => simp only [SOp.ev, hv_congr (h x (by simp [SOp.opds]))]
  case int op x y =>
    have h1 := hv_congr (h x (by simp [SOp.opds]))
    have h2 := hv_congr (h y (by simp [SOp.opds]))
    simp only [SOp.ev, h1, h2]
  case str op x y =>
    have h1 := hv_congr (h x (by simp [SOp.opds]))
    have h2 := hv_congr (h y (by simp [SOp.opds]))
    simp only [SOp.ev, h1, h2]
  case eq k ne x y =>
    have h1 := hv_congr (h x (by simp [SOp.opds]))
    have h2 := hv_congr (h y (by simp [SOp.opds]))
    simp only [SOp.ev, h1, h2]
  case idx sz x y =>
    have h1 := hv_congr (h x (by simp [SOp.opds]))
    have h2 := hv_congr (h y (by simp [SOp.opds]))
    simp only [SOp.ev, h1, h2]
  case sidx x y =>
    have h1 := hv_congr (h x (by simp [SOp.opds]))
    have h2 := hv_congr (h y (by simp [SOp.opds]))
    simp only [SOp.ev, h1, h2]
  case mm mx x y =>
    have h1 := hv_congr (h x (by simp [SOp.opds]))
    have h2 := hv_congr (h y (by simp [SOp.opds]))
    simp only [SOp.ev, h1, h2]
  all_goals rfl
end

end Sm
