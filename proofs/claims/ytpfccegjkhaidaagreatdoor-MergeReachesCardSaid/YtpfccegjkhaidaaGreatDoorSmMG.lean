/-
  A layer of one's own: texts M21.
-/
import Derived.Test.YtpfccegjkhaidaaGreatDoorSmMF
set_option linter.unusedVariables false
set_option linter.unusedSimpArgs false
set_option maxRecDepth 10000
set_option maxHeartbeats 1000000
namespace Sm
open Go
theorem v3_iff : ∀ {l m : List Ent}, Nd l → Sd m → Sd (v3 l m) ∧ ∀ e, e ∈ v3 l m ↔ e ∈ l ∨ (e ∈ m ∧ ∀ y ∈ l, y.path ≠ e.path)
  | [], m, _, hm => ⟨hm, fun e => by show e ∈ m ↔ _; simp⟩
  | x :: l, m, hl, hm => by
    have h0 := List.nodup_cons.mp hl
    have hx : ∀ y ∈ l, y.path ≠ x.path := fun y hy e => h0.1 (by rw [← e]; exact List.mem_map_of_mem hy)
    obtain ⟨a1, a2⟩ := rput_sd hm x
    obtain ⟨b1, b2⟩ := v3_iff (l := l) (m := rputL m x) h0.2 a1
    refine ⟨b1, fun e => ?_⟩
    show e ∈ v3 l (rputL m x) ↔ _
    rw [b2, a2]
    constructor
    · rintro (h | ⟨rfl | ⟨h1, h2⟩, h3⟩)
      · exact .inl (by simp [h])
      · exact .inl (by simp)
      · refine .inr ⟨h1, fun y hy => ?_⟩
        rcases List.mem_cons.mp hy with rfl | hy
        · exact Ne.symm h2
        · exact h3 y hy
    · rintro (h | ⟨h1, h2⟩)
      · rcases List.mem_cons.mp h with rfl | h
        · exact .inr ⟨.inl rfl, hx⟩
        · exact .inl h
      · exact .inr ⟨.inr ⟨h1, Ne.symm (h2 x (by simp))⟩, fun y hy => h2 y (by simp [hy])⟩
theorem v1_v3 {s : List Ent} {del : Bool} : ∀ (l m : List Ent), v1 s del l m = v3 (l.filter (rst s del)) m
  | [], m => rfl
  | x :: l, m => by
    show v1 s del l (if rst s del x then rputL m x else m) = _
    rw [v1_v3 l, List.filter_cons]
    cases rst s del x <;> rfl
/-- The file that keeps another. -/
def kE (x : Ent) : Ent := ⟨rkep x.path, false, x.data⟩
theorem v2_v3 {s d : List Ent} {del bak : Bool} : ∀ (l m : List Ent), v2 s d del bak l m = v3 ((l.filter (rkp s d del bak)).map kE) m
  | [], m => rfl
  | x :: l, m => by
    show v2 s d del bak l (if rkp s d del bak x then rputL m ⟨rkep x.path, false, x.data⟩ else m) = _
    rw [v2_v3 l, List.filter_cons]
    cases rkp s d del bak x <;> rfl
theorem Nd.filter {l : List Ent} (h : Nd l) (p : Ent → Bool) : Nd (l.filter p) := List.Nodup.sublist (List.filter_sublist.map _) h
theorem rkep_ne {p : List UInt8} (h : rkep p ≠ []) : rkep p = p ++ [126] ∧ p ≠ [] ∧ chkP (p ++ [126]) = 0 := by
  unfold rkep at h ⊢
  split at h
  · exact absurd rfl h
  · rename_i c
    rw [if_neg c]
    refine ⟨rfl, fun e => c (by simp [e]), ?_⟩
    cases c2 : chkP (p ++ [126]) != 0
    · simpa [bne] using c2
    · exact absurd (by simp [c2]) c
theorem kE_nd {s d : List Ent} {del bak : Bool} : ∀ {l : List Ent}, Nd l → Nd ((l.filter (rkp s d del bak)).map kE)
  | [], _ => List.nodup_nil
  | x :: l, h => by
    have h0 := List.nodup_cons.mp h
    have ih := kE_nd (s := s) (d := d) (del := del) (bak := bak) (l := l) h0.2
    rw [List.filter_cons]
    split
    · rename_i c
      rw [List.map_cons]
      refine List.nodup_cons.mpr ⟨fun hm => ?_, ih⟩
      obtain ⟨y, hy, e⟩ := List.mem_map.mp hm
      obtain ⟨z, hz, rfl⟩ := List.mem_map.mp hy
      obtain ⟨hz1, hz2⟩ := List.mem_filter.mp hz
      have e' : rkep z.path = rkep x.path := e
      rw [(rkep_ne (rkp_ne hz2)).1, (rkep_ne (rkp_ne c)).1] at e'
      exact h0.1 (by rw [← List.append_cancel_right e']; exact List.mem_map_of_mem hz1)
    · exact ih
/-- What is in the list that is wanted. -/
theorem vant_iff {s d : List Ent} {del bak : Bool} (hs : chkT s = 0) (hd : chkT d = 0) : Sd (vant s d del bak) ∧ ∀ e, e ∈ vant s d del bak ↔
    e ∈ s ∨ (((∃ x ∈ d, rkp s d del bak x = true ∧ e = kE x) ∨ (e ∈ d ∧ rst s del e = true ∧ ∀ x ∈ d, rkp s d del bak x = true → rkep x.path ≠ e.path)) ∧ ∀ y ∈ s, y.path ≠ e.path) := by
  have ns : Nd s := chk_nodup hs
  have nd : Nd d := chk_nodup hd
  obtain ⟨a1, a2⟩ := v3_iff (l := d.filter (rst s del)) (m := []) (nd.filter _) List.Pairwise.nil
  obtain ⟨b1, b2⟩ := v3_iff (l := (d.filter (rkp s d del bak)).map kE) (kE_nd nd) a1
  obtain ⟨c1, c2⟩ := v3_iff (l := s) ns b1
  unfold vant
  rw [v1_v3, v2_v3]
  refine ⟨c1, fun e => ?_⟩
  rw [c2, b2, a2]
  refine or_congr Iff.rfl (and_congr ?_ Iff.rfl)
  constructor
  · rintro (h | ⟨h | ⟨h, _⟩, h2⟩)
    · obtain ⟨x, hx, rfl⟩ := List.mem_map.mp h
      obtain ⟨hx1, hx2⟩ := List.mem_filter.mp hx
      exact .inl ⟨x, hx1, hx2, rfl⟩
    · obtain ⟨h3, h4⟩ := List.mem_filter.mp h
      exact .inr ⟨h3, h4, fun x hx hk => h2 (kE x) (List.mem_map_of_mem (List.mem_filter.mpr ⟨hx, hk⟩))⟩
    · simp at h
  · rintro (⟨x, hx, hk, rfl⟩ | ⟨h1, h2, h3⟩)
    · exact .inl (List.mem_map_of_mem (List.mem_filter.mpr ⟨hx, hk⟩))
    · refine .inr ⟨.inl (List.mem_filter.mpr ⟨h1, h2⟩), fun y hy => ?_⟩
      obtain ⟨x, hx, rfl⟩ := List.mem_map.mp hy
      obtain ⟨hx1, hx2⟩ := List.mem_filter.mp hx
      exact h3 x hx1 hx2
theorem Sd.nd {l : List Ent} (h : Sd l) : Nd l := List.nodup_iff_pairwise_ne.mpr (List.pairwise_map.mpr (h.imp fun {x y} hxy e => by rw [e, lessP_irr] at hxy; cases hxy))
theorem getR_nd : ∀ {l : List Ent} {e : Ent}, Nd l → e ∈ l → getR l e.path = (e, true)
  | x :: l, e, h, he => by
    have h0 := List.nodup_cons.mp h
    unfold getR
    rw [List.find?_cons]
    rcases List.mem_cons.mp he with rfl | he
    · simp
    · have hne : (x.path == e.path) = false := by
        rw [beq_eq_false_iff_ne]
        intro e2
        exact h0.1 (by rw [e2]; exact List.mem_map_of_mem he)
      rw [hne]
      exact getR_nd h0.2 he
theorem getR_not {l : List Ent} {p : List UInt8} (h : ∀ e ∈ l, e.path ≠ p) : getR l p = (zE, false) := by
  have : l.find? (fun e => e.path == p) = none := List.find?_eq_none.mpr fun e he => by simpa using h e he
  rw [getR, this]
theorem getR_no {l : List Ent} {p : List UInt8} (h : (getR l p).2 = false) : ∀ e ∈ l, e.path ≠ p := by
  intro e he hp
  unfold getR at h
  split at h
  · cases h
  · rename_i hn
    exact List.find?_eq_none.mp hn e he (by simpa using hp)
theorem sd_of {l : List Ent} (h : chkT l = 0) : Sd l := List.pairwise_iff_getElem.mpr fun i j hi hj hij => rise_all h j hj hij
/-- With deleting, and without keeping. -/
theorem vant_del {s d : List Ent} (hs : chkT s = 0) (hd : chkT d = 0) : vant s d true false = s := by
  obtain ⟨h1, h2⟩ := vant_iff (del := true) (bak := false) hs hd
  refine srt_ext h1 (sd_of hs) fun e => ?_
  rw [h2]
  constructor
  · rintro (h | ⟨⟨x, hx, hk, rfl⟩ | ⟨hd2, hr, _⟩, hn⟩)
    · exact h
    · simp [rkp] at hk
    · exfalso
      have hg := getR_not (p := e.path) hn
      simp [rst, hg] at hr
  · exact .inl
/-- With keeping: what is beside the source's. -/
theorem vant_kept {s d : List Ent} (hs : chkT s = 0) (hd : chkT d = 0) {e : Ent} (he : e ∈ vant s d true true) (hn : (getR s e.path).2 = false) : ∃ x ∈ d, rkp s d true true x = true ∧ e = kE x := by
  obtain ⟨h1, h2⟩ := vant_iff (del := true) (bak := true) hs hd
  rcases (h2 e).mp he with h | ⟨h | ⟨hd2, hr, _⟩, hn2⟩
  · exact absurd rfl (getR_no hn e h)
  · exact h
  · exfalso
    have hg := getR_not (p := e.path) hn2
    simp [rst, hg] at hr
theorem rkp_nd {s d : List Ent} {del bak : Bool} {x : Ent} (h : rkp s d del bak x = true) : x.dir = false := by
  cases c : x.dir
  · rfl
  · rw [rkp, c] at h; simp at h
end Sm
