/-
  A layer of one's own: texts M23,M24.
-/
import Derived.Test.YtpfccegjkhaidaaGreatDoorSmMG
set_option linter.unusedVariables false
set_option linter.unusedSimpArgs false
set_option maxRecDepth 10000
set_option maxHeartbeats 1000000
namespace Sm
open Go
theorem splA_app : ∀ (q r : List UInt8), splA (q ++ 47 :: r) = ((splA q).1, (splA q).2 ++ ((splA r).1 :: (splA r).2))
  | [], r => by simp [splA]
  | b :: q, r => by
    rw [List.cons_append, splA, splA, splA_app q r]
    cases b == 47 <;> simp
theorem segs_app (q r : List UInt8) : segs (q ++ 47 :: r) = segs q ++ segs r := by
  unfold segs; rw [splA_app]; rfl
theorem cmpL_pre : ∀ (a : List (List UInt8)) (x : List UInt8) (xs : List (List UInt8)), cmpL a (a ++ x :: xs) < 0
  | [], x, xs => by simp [cmpL]
  | a :: l, x, xs => by
    rw [List.cons_append, cmpL, if_pos (cmpS_eq.mpr rfl)]; exact cmpL_pre l x xs
theorem parL_split {p : List UInt8} (h : parL p ≠ []) : ∃ r, p = parL p ++ 47 :: r := by
  have hb := lix_bd p 47
  have h0 : 0 ≤ lix p 47 := by
    apply Decidable.byContradiction; intro hn
    apply h; unfold parL
    rw [show (max (lix p 47) 0).toNat = 0 by omega]; rfl
  have h1 : (max (lix p 47) 0).toNat < p.length := by omega
  have h2 : p[(max (lix p 47) 0).toNat]'h1 = 47 := (lix_is p 47 _ (by omega)).2
  refine ⟨p.drop ((max (lix p 47) 0).toNat + 1), ?_⟩
  unfold parL
  conv => lhs; rw [← List.take_append_drop (max (lix p 47) 0).toNat p, List.drop_eq_getElem_cons h1, h2]
/-- The parent comes first. -/
theorem lessP_par {p : List UInt8} (h : parL p ≠ []) : lessP (parL p) p = true := by
  obtain ⟨r, hr⟩ := parL_split h
  have hp : p ≠ [] := by intro e; rw [e] at h; exact h rfl
  have e : spl p = segs (parL p) ++ segs r := by
    rw [spl, if_neg hp]
    conv => lhs; rw [hr]
    exact segs_app _ _
  have e2 : spl (parL p) = segs (parL p) := by rw [spl, if_neg h]
  rw [lessP, e, e2]
  simp only [decide_eq_true_eq]
  exact cmpL_pre _ _ _
theorem lix_app : ∀ (p : List UInt8), lix (p ++ [126]) 47 = lix p 47
  | [] => rfl
  | b :: p => by
    rw [List.cons_append, lix, lix, lix_app p]
theorem parL_tilde (p : List UInt8) : parL (p ++ [126]) = parL p := by
  have hb := lix_bd p 47
  unfold parL
  rw [lix_app]
  exact List.take_append_of_le_length (by omega)
/-- What an entry by itself must be. -/
structure OkE (e : Ent) : Prop where
  p : chkP e.path = 0
  v : hpB e.path pre = false
  d : e.data.length ≤ 65536
  k : (e.dir && decide (0 < e.data.length)) = false
theorem chkE_of {a : List Ent} {x : Ent} (h : OkE x) (hl : lastBad a x = false) (hp : parL x.path ≠ [] → (getR a (parL x.path)).2 = true ∧ (getR a (parL x.path)).1.dir = true) : chkE a x = 0 := by
  rw [chkE, if_neg (by simp [h.p]), if_neg (by simp [h.v]), if_neg (by have := h.d; omega), if_neg (by simp [h.k]), if_neg (by simp [hl])]
  split
  · rfl
  · rename_i hn
    obtain ⟨h1, h2⟩ := hp hn
    rw [if_neg (by simp [h1]), if_neg (by simp [h2])]
theorem chkE_okE {a : List Ent} {x : Ent} (h : chkE a x = 0) : OkE x := by
  have hv := chkE_vis h
  have hp := (chkE_ok h).1
  rw [chkE, if_neg (by simp [hp]), if_neg (by simp [hv])] at h
  split at h
  · cases h
  · rename_i h1
    split at h
    · cases h
    · rename_i h2
      exact ⟨hp, hv, by omega, by simpa using h2⟩
theorem okE_of {l : List Ent} (h : chkT l = 0) {e : Ent} (he : e ∈ l) : OkE e := by
  obtain ⟨i, hi, rfl⟩ := List.getElem_of_mem he
  exact chkE_okE (chkT_at h i hi)
/-- A list that rises, with all parents, is a tree. -/
theorem chk_of {l : List Ent} (h1 : Sd l) (h2 : l.length ≤ 64) (h3 : ∀ e ∈ l, OkE e) (h4 : ∀ e ∈ l, parL e.path ≠ [] → ∃ y ∈ l, y.path = parL e.path ∧ y.dir = true) : chkT l = 0 := by
  have key : ∀ n i, n = l.length - i → i ≤ l.length → chkAll (l.take i) (l.drop i) = 0 := by
    intro n
    induction n with
    | zero => intro i hn hi; rw [List.drop_of_length_le (by omega)]; rfl
    | succ n ih =>
      intro i hn hi
      have hil : i < l.length := by omega
      rw [chkAll_step hil]
      have hc : chkE (l.take i) l[i] = 0 := by
        refine chkE_of (h3 _ (List.getElem_mem hil)) ?_ fun hp => ?_
        · rcases Nat.eq_zero_or_pos i with rfl | h0
          · rfl
          · rw [lastBad_get (by rw [List.length_take]; omega)]
            have e : (l.take i)[(l.take i).length - 1]'(by rw [List.length_take]; omega) = l[i - 1]'(by omega) := by
              simp only [List.getElem_take, List.length_take]
              congr 1; omega
            rw [e, List.pairwise_iff_getElem.mp h1 (i - 1) i (by omega) hil (by omega)]; rfl
        · obtain ⟨y, hy, e1, e2⟩ := h4 _ (List.getElem_mem hil) hp
          obtain ⟨j, hj, rfl⟩ := List.getElem_of_mem hy
          have hlt := lessP_par hp
          rw [← e1] at hlt
          have hji : j < i := by
            rcases Nat.lt_trichotomy j i with h | h | h
            · exact h
            · subst h; rw [lessP_irr] at hlt; cases hlt
            · have := lessP_trans hlt (List.pairwise_iff_getElem.mp h1 i j hil hj h)
              rw [lessP_irr] at this; cases this
          have hm : l[j] ∈ l.take i := by
            have : (l.take i)[j]'(by rw [List.length_take]; omega) = l[j] := by simp
            rw [← this]; exact List.getElem_mem _
          have hn : Nd (l.take i) := List.Nodup.sublist ((List.take_sublist i l).map _) h1.nd
          have := getR_nd hn hm
          rw [e1] at this
          rw [this]; exact ⟨rfl, e2⟩
      rw [if_neg (by simp [hc])]
      exact ih (i + 1) (by omega) (by omega)
  rw [chkT, if_neg (by omega)]
  exact key l.length 0 (by omega) (by omega)
theorem par_in {l : List Ent} (h : chkT l = 0) {e : Ent} (he : e ∈ l) (hp : parL e.path ≠ []) : ∃ y ∈ l, y.path = parL e.path ∧ y.dir = true ∧ getR l (parL e.path) = (y, true) := by
  obtain ⟨i, hi, rfl⟩ := List.getElem_of_mem he
  obtain ⟨h1, h2⟩ := par_dir h hi hp
  obtain ⟨h3, h4⟩ := getR_in h1
  refine ⟨_, h3, h4, h2, ?_⟩
  rw [← h4]
  have := getR_nd (chk_nodup h) h3
  rw [this]
/-- No parent of an entry is a file. -/
theorem blk_tree {s : List Ent} (h : chkT s = 0) : ∀ n {e : Ent}, e.path.length ≤ n → e ∈ s → blkU s (parL e.path) = false
  | n, e, hn, he => by
    by_cases hp : parL e.path = []
    · rw [hp, blkU]; rfl
    · obtain ⟨y, hy, e1, e2, e3⟩ := par_in h he hp
      have hne : e.path ≠ [] := by intro e4; rw [e4] at hp; exact hp rfl
      have hl := parL_lt hne
      cases n with
      | zero => exact absurd (List.length_pos_iff.mpr hne) (by omega)
      | succ n =>
        rw [blkU, dif_neg hp, e3, e2]
        have := blk_tree h n (e := y) (by rw [e1]; omega) hy
        rw [e1] at this
        rw [this]; rfl
theorem hpB_tilde {p : List UInt8} (h : hpB p pre = false) : hpB (p ++ [126]) pre = false := by
  cases c : hpB (p ++ [126]) pre
  · rfl
  · exfalso
    unfold hpB at c h
    rw [Bool.and_eq_true] at c
    obtain ⟨c1, c2⟩ := c
    have c1' : pre.length ≤ p.length + 1 := by simpa using c1
    have c2' : (p ++ [126]).take pre.length = pre := by simpa using c2
    by_cases hl : pre.length ≤ p.length
    · rw [List.take_append_of_le_length hl] at c2'
      simp [hl, c2'] at h
    · have he : p.length + 1 = pre.length := by omega
      rw [List.take_of_length_le (by simp; omega)] at c2'
      have := congrArg List.getLast? c2'
      simp [pre] at this
end Sm

set_option linter.unusedVariables false
set_option linter.unusedSimpArgs false
set_option maxRecDepth 10000
set_option maxHeartbeats 1000000
namespace Sm
open Go
section
variable {s d : List Ent} {del bak : Bool}
theorem rblk_eq (hs : chkT s = 0) {p : List UInt8} (hp : chkP p = 0) : rblk s 8 p = blkU s (parL p) := blk_eq hs 8 p (by have := chkP_count hp; omega)
theorem rst_not {e : Ent} (h : (getR s e.path).2 = false) : rst s del e = (!rblk s 8 e.path && !del) := by
  unfold rst; rw [h]; rfl
/-- A directory of the destination that stays is there still. -/
theorem dir_in (hs : chkT s = 0) (hd : chkT d = 0) {y : Ent} (hy : y ∈ d) (h1 : y.dir = true) (h2 : rst s del y = true) : ∃ z ∈ vant s d del bak, z.path = y.path ∧ z.dir = true := by
  obtain ⟨_, hW⟩ := vant_iff (del := del) (bak := bak) hs hd
  cases c : (getR s y.path).2
  · refine ⟨y, (hW y).mpr (.inr ⟨.inr ⟨hy, h2, fun x hx hk e => ?_⟩, fun z hz => getR_no c z hz⟩), rfl, h1⟩
    have hg := getR_nd (chk_nodup hd) hy
    rw [← e] at hg
    have := rkp_nodir hk (by rw [hg])
    rw [hg] at this
    rw [h1] at this; cases this
  · obtain ⟨g1, g2⟩ := getR_in c
    refine ⟨_, (hW _).mpr (.inl g1), g2, ?_⟩
    rw [rst, c, h1] at h2
    simpa using h2
theorem kept_facts (hd : chkT d = 0) {x : Ent} (hx : x ∈ d) (hk : rkp s d del bak x = true) : OkE (kE x) ∧ parL (kE x).path = parL x.path ∧ (kE x).path = x.path ++ [126] := by
  have h0 := okE_of hd hx
  obtain ⟨e1, e2, e3⟩ := rkep_ne (rkp_ne hk)
  have ep : (kE x).path = x.path ++ [126] := e1
  refine ⟨⟨by rw [ep]; exact e3, by rw [ep]; exact hpB_tilde h0.v, h0.d, rfl⟩, by rw [ep, parL_tilde], ep⟩
theorem kept_par {x : Ent} (hk : rkp s d del bak x = true) (hp : parL (rkep x.path) ≠ []) : ((getR s (parL (rkep x.path))).2 = true ∧ (getR s (parL (rkep x.path))).1.dir = true) ∨ ((getR d (parL (rkep x.path))).2 = true ∧ (getR d (parL (rkep x.path))).1.dir = true ∧ rst s del (getR d (parL (rkep x.path))).1 = true) := by
  have hp' : (parL (rkep x.path) == []) = false := by simpa using hp
  rw [rkp, hp'] at hk
  split at hk
  · cases hk
  split at hk
  · cases hk
  simp only [Bool.false_eq_true, if_false, Bool.or_eq_true, Bool.and_eq_true] at hk
  exact hk
/-- What is wanted is a tree. -/
theorem vant_chk (hs : chkT s = 0) (hd : chkT d = 0) (hl : (vant s d del bak).length ≤ 64) : chkT (vant s d del bak) = 0 := by
  obtain ⟨hSd, hW⟩ := vant_iff (del := del) (bak := bak) hs hd
  refine chk_of hSd hl (fun e he => ?_) fun e he hp => ?_
  · rcases (hW e).mp he with h | ⟨⟨x, hx, hk, rfl⟩ | ⟨h, _, _⟩, _⟩
    · exact okE_of hs h
    · exact (kept_facts hd hx hk).1
    · exact okE_of hd h
  · rcases (hW e).mp he with h | ⟨⟨x, hx, hk, rfl⟩ | ⟨h, hr, _⟩, hn⟩
    · obtain ⟨y, hy, e1, e2, _⟩ := par_in hs h hp
      exact ⟨y, (hW y).mpr (.inl hy), e1, e2⟩
    · rcases kept_par hk hp with ⟨h1, h2⟩ | ⟨h1, h2, h3⟩
      · obtain ⟨g1, g2⟩ := getR_in h1
        exact ⟨_, (hW _).mpr (.inl g1), g2, h2⟩
      · obtain ⟨g1, g2⟩ := getR_in h1
        obtain ⟨z, hz, z1, z2⟩ := dir_in (bak := bak) hs hd g1 h2 h3
        exact ⟨z, hz, by rw [z1, g2]; rfl, z2⟩
    · obtain ⟨y, hy, e1, e2, e3⟩ := par_in hd h hp
      have hno : (getR s e.path).2 = false := by rw [getR_not hn]
      rw [rst_not hno, Bool.and_eq_true, rblk_eq hs (okD hd h), blkU, dif_neg hp] at hr
      obtain ⟨hr1, hr2⟩ := hr
      simp only [Bool.not_eq_true', Bool.or_eq_false_iff] at hr1
      obtain ⟨hb1, hb2⟩ := hr1
      cases c : (getR s (parL e.path)).2
      · have hry : rst s del y = true := by
          have hyp : (getR s y.path).2 = false := by rw [e1]; exact c
          rw [rst_not hyp, rblk_eq hs (okD hd hy), e1, hb2, hr2]; rfl
        obtain ⟨z, hz, z1, z2⟩ := dir_in (bak := bak) hs hd hy e2 hry
        exact ⟨z, hz, by rw [z1, e1], z2⟩
      · obtain ⟨g1, g2⟩ := getR_in c
        rw [c] at hb1
        exact ⟨_, (hW _).mpr (.inl g1), g2, by simpa using hb1⟩
/-- Nothing that is wanted is under a file of the source's. -/
theorem vant_free (hs : chkT s = 0) (hd : chkT d = 0) {e : Ent} (he : e ∈ vant s d del bak) (hn : ∀ y ∈ s, y.path ≠ e.path) : blkU s (parL e.path) = false := by
  obtain ⟨hSd, hW⟩ := vant_iff (del := del) (bak := bak) hs hd
  rcases (hW e).mp he with h | ⟨⟨x, hx, hk, rfl⟩ | ⟨h, hr, _⟩, _⟩
  · exact absurd rfl (hn e h)
  · by_cases hp : parL (kE x).path = []
    · rw [hp, blkU]; rfl
    · have hp2 : parL (rkep x.path) ≠ [] := hp
      have tree : ∀ {u : List UInt8}, u ≠ [] → (getR s u).2 = true → (getR s u).1.dir = true → blkU s u = false := fun {u} hu h1 h2 => by
        obtain ⟨g1, g2⟩ := getR_in h1
        have := blk_tree hs _ (Nat.le_refl _) g1
        rw [g2] at this
        rw [blkU, dif_neg hu, h1, h2, this]; rfl
      rcases kept_par hk hp with ⟨h1, h2⟩ | ⟨h1, h2, h3⟩
      · exact tree hp h1 h2
      · obtain ⟨g1, g2⟩ := getR_in h1
        cases c : (getR s (parL (rkep x.path))).2
        · have hyp : (getR s (getR d (parL (rkep x.path))).1.path).2 = false := by rw [g2]; exact c
          rw [rst_not hyp, Bool.and_eq_true, rblk_eq hs (okD hd g1), g2] at h3
          show blkU s (parL (rkep x.path)) = false
          rw [blkU, dif_neg hp2, c]
          simpa using h3.1
        · have hd3 : (getR s (parL (rkep x.path))).1.dir = true := by
            rw [rst, g2, c, h2] at h3
            simpa using h3
          exact tree hp c hd3
  · have hno : (getR s e.path).2 = false := by rw [getR_not hn]
    rw [rst_not hno, Bool.and_eq_true, rblk_eq hs (okD hd h)] at hr
    simpa using hr.1
/-- Made the destination, it is wanted as it is. -/
theorem vant_again (hs : chkT s = 0) (hd : chkT d = 0) (hl : (vant s d del bak).length ≤ 64) : vant s (vant s d del bak) false false = vant s d del bak := by
  obtain ⟨hSd, hW⟩ := vant_iff (del := del) (bak := bak) hs hd
  have hc := vant_chk hs hd hl
  obtain ⟨h1, h2⟩ := vant_iff (del := false) (bak := false) hs hc
  refine srt_ext h1 hSd fun e => ?_
  rw [h2]
  constructor
  · rintro (h | ⟨⟨x, hx, hk, rfl⟩ | ⟨h, _, _⟩, _⟩)
    · exact (hW e).mpr (.inl h)
    · simp [rkp] at hk
    · exact h
  · intro h
    by_cases hn : ∀ y ∈ s, y.path ≠ e.path
    · refine .inr ⟨.inr ⟨h, ?_, fun x hx hk => by simp [rkp] at hk⟩, hn⟩
      have hno : (getR s e.path).2 = false := by rw [getR_not hn]
      rw [rst_not hno, rblk_eq hs (okD hc h), vant_free hs hd h hn]; rfl
    · rcases (hW e).mp h with h3 | ⟨_, h3⟩
      · exact .inl h3
      · exact absurd h3 hn
theorem pushes_nil {k : UInt8} {p : Ent → Bool} {q : Ent → List UInt8} {l : List Ent} (h : ∀ e ∈ l, p e = false) : pushes k p q l = [] := by
  unfold pushes
  rw [List.filter_eq_nil_iff.mpr (fun e he => by simp [h e he])]; rfl
theorem src_in (hs : chkT s = 0) (hd : chkT d = 0) {e : Ent} (he : e ∈ s) : getR (vant s d del bak) e.path = (e, true) := by
  obtain ⟨hSd, hW⟩ := vant_iff (del := del) (bak := bak) hs hd
  exact getR_nd hSd.nd ((hW e).mpr (.inl he))
/-- .. and nothing is to be done. -/
theorem steps_none (hs : chkT s = 0) (hd : chkT d = 0) : stepsR s (vant s d del bak) false false (vant s d del bak) = [] := by
  obtain ⟨hSd, hW⟩ := vant_iff (del := del) (bak := bak) hs hd
  have a1 : pushes 0 (r3 s (vant s d del bak) false false) (fun e => rkep e.path) (vant s d del bak) = [] := pushes_nil fun e he => by simp [r3, rkp]
  have a2 : pushes 1 (q4 (vant s d del bak)) (fun _ => []) (vant s d del bak).reverse = [] := pushes_nil fun e he => by
    have := getR_nd hSd.nd (List.mem_reverse.mp he)
    unfold q4; rw [this]; simp
  have a3 : pushes 2 (r5 (vant s d del bak)) (fun _ => []) (vant s d del bak) = [] := pushes_nil fun e he => by
    have := getR_nd hSd.nd he
    unfold r5; rw [this]; simp
  have a4 : pushes 3 (r6 (vant s d del bak)) (fun _ => []) s = [] := pushes_nil fun e he => by
    have := src_in (del := del) (bak := bak) hs hd he
    unfold r6; rw [this]; simp
  unfold stepsR
  rw [a1, a2, a3, a4]; rfl
end
end Sm
