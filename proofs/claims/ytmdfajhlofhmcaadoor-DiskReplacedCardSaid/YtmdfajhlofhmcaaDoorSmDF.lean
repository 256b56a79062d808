/-
  A layer of one's own: texts D17.
-/
import Derived.Test.YtmdfajhlofhmcaaDoorSmDE
set_option linter.unusedVariables false
set_option linter.unusedSimpArgs false
set_option maxRecDepth 10000
set_option maxHeartbeats 1000000
namespace Sm
open Go
-- BASE dkU
theorem r_slcH {S' : SpecT} {sl : List (Nat × EV)} {bx : List (Nat × List HV)} {H : Heap} {K : Env → Heap → Prop} {os : List SOper} {d : Nat} {sz : Nat} {x hi : Opd} {es : List HV} {n : Int} {k : Nat} (hx : (M sl bx).hv x = some (.sl .no sz es)) (h1 : (M sl bx).hv hi = some (I n)) (e1 : n = k) (hk : k ≤ es.length)
    (h : rsem S' os (M ((d, .h (.sl .no sz (es.take k))) :: sl) bx) H K) : rsem S' (⟨some d, .slc sz x none (some hi) none, none⟩ :: os) (M sl bx) H K := by
  subst e1
  refine r_calm rfl ?_ h
  simp only [SOp.ev, hx, bnd, h1]
  rw [if_pos ⟨trivial, by omega, by omega, by omega⟩]
  simp
theorem r_slcD {S' : SpecT} {sl : List (Nat × EV)} {bx : List (Nat × List HV)} {H : Heap} {K : Env → Heap → Prop} {os : List SOper} {d : Nat} {sz : Nat} {x lo : Opd} {es : List HV} {n : Int} {k : Nat} (hx : (M sl bx).hv x = some (.sl .no sz es)) (h1 : (M sl bx).hv lo = some (I n)) (e1 : n = k) (hk : k ≤ es.length)
    (h : rsem S' os (M ((d, .h (.sl .no sz (es.drop k))) :: sl) bx) H K) : rsem S' (⟨some d, .slc sz x (some lo) none none, none⟩ :: os) (M sl bx) H K := by
  subst e1
  refine r_calm rfl ?_ h
  simp only [SOp.ev, hx, bnd, h1]
  rw [if_pos ⟨trivial, by omega, by omega, by omega⟩]
  simp only [Int.toNat_natCast]
  congr 3
  · split <;> rfl
  · exact List.take_of_length_le (by simp)
theorem chain_get : ∀ {cs : List Chg} {l : List Nm} {i : Nat} (h : i < cs.length), chain l cs → okC (appAll l (cs.take i)) cs[i]
  | c :: cs, l, 0, _, h => h.1
  | c :: cs, l, i + 1, hi, h => chain_get (cs := cs) (l := appC l c) (by simpa using hi) h.2
theorem appAll_succ {cs : List Chg} {l : List Nm} {i : Nat} (h : i < cs.length) : appAll l (cs.take (i + 1)) = appC (appAll l (cs.take i)) cs[i] := by
  rw [List.take_succ_eq_append_getElem h, appAll_snoc]
/-- What is ahead of a crash's files. -/
def Dk.crash1 (d : Dk) (count : Int) : Dk := { d with sure := appAll d.sure (d.loose.take (max 0 (min count d.loose.length)).toNat), loose := [] }
theorem crash1_wf {d : Dk} {n m : Nat} (h : d.WF n m) (count : Int) : (d.crash1 count).WF n m := by
  unfold Dk.crash1
  generalize (max 0 (min count (d.loose.length : Int))).toNat = k
  have hl := appAll_len (d.loose.take k) d.sure
  have hk : (d.loose.take k).length ≤ d.loose.length := by rw [List.length_take]; omega
  have := h.len
  exact ⟨chain_sn h.sn (chain_take k h.ch), trivial, by simp only [List.length_nil]; omega, h.fl, h.op, appAll_ok h.ids fun c hc => (h.idc c (List.mem_of_mem_take hc)).1, by simp, h.sz, h.rm, h.fa, h.wr⟩
attribute [local irreducible] csem rsem dsem seqK blockK normK finK DK RK JK BR G3 resK Spec Tok Fr CV

theorem dcrash_spec (L : Linked code) (C : Cl L) (b : Nat) (h : Hd) (d : Dk) (count : Int) (keep : List UInt8) (n m : Nat) (hw : d.WF n m) (hn : n < 1048576) (hm : m ≤ 140737488355328) (hkl : keep.length ≤ 9223372036854775807) (H : Heap) (hD : KD H b h d)
    (K) (hk : ∀ Y h', KD Y b h' (d.crash count keep) → Own H Y (h.bs b) (h'.bs b) → K (.tu []) Y) : Spec L.P L.ν 297 [ptr b, I count, .sl .no 1 (keep.map U)] H K := by
  have hw1 := crash1_wf hw count
  have ob := hD.ob
  have hlen := hw.len
  have hnd := hD.nd
  simp only [Hd.bs, List.nodup_cons, List.mem_cons, not_or] at hnd
  obtain ⟨⟨q1, q2, q3⟩, ⟨q4, q5⟩, q6, q7⟩ := hnd
  unfold Dk.crash at hk
  unfold Dk.crash1 at hw1
  have hkk : (max 0 (min count (d.loose.length : Int))).toNat ≤ d.loose.length := by omega
  have hki : max 0 (min count (d.loose.length : Int)) = ((max 0 (min count (d.loose.length : Int))).toNat : Int) := by omega
  generalize hkd : (max 0 (min count (d.loose.length : Int))).toNat = k at hk hw1 hkk hki
  dsimp only at hk
  refine go_spec L code297 rfl ?_
  repeat (refine gk dkU ?_)
  (apply r_call; (focus rfl))
  refine mclone_spec L h.ms d.sure H hD.su _ fun m1 X1 hm1 hM1 g1 => ?_
  have nm1 := hD.new hm1
  simp only [Hd.bs, List.mem_cons, not_or] at nm1
  have ob1 := g1.get (by simp) ob
  repeat (refine gk dkU ?_)
  refine sxk dkU ?_
  intro X2 x2 g2
  have hM2 := hM1.fr g2 (by simpa using nm1.1)
  repeat (refine gk dkU ?_)
  apply r_slcH (k := k); (focus rfl); (focus rfl); (focus exact hki); (focus (simp; exact hkk))
  rw [← List.map_take]
  repeat (refine gk dkU ?_)
  have hlk : (d.loose.take k).length ≤ 1048576 := by rw [List.length_take]; omega
  refine c_loop (Spec_SMono L) (fun (i : Nat) => [(0, .h (ptr b)), (2, .h (.sl .no 1 (keep.map U))), (35, .h (.sl .no 2 ((d.loose.take k).map chgV))), (36, .h (I (d.loose.take k).length)), (37, .h (I i))]) (fun _ => []) (fun i X => i ≤ (d.loose.take k).length ∧ Fr [m1] X2 X ∧ PM X m1 (appAll d.sure ((d.loose.take k).take i))) (fun i => (d.loose.take k).length - i) 0 ?_ ⟨by omega, Fr.refl _ _, by simpa [appAll] using hM2⟩ ?_
  · (refine leM ?_ ?_ ?_ <;> (repeat refine leS trivial ?_) <;> exact leE)
  rintro i X ⟨hi, hf, hM⟩
  have x2b := hf.get (a := b) (by simpa using fun e => nm1.1 e.symm) x2
  repeat (refine gk dkU ?_)
  (refine ct dkU ?_ ?_ <;> intro hc)
  · have hi' : i < (d.loose.take k).length := by simpa using hc
    have hch := chain_take k hw.ch
    have hok := chain_get hi' hch
    have hsn := chain_sn hw.sn (chain_take i hch)
    have hsucc := appAll_succ (l := d.sure) hi'
    obtain ⟨c, hcd⟩ : ∃ c, c = (d.loose.take k)[i] := ⟨_, rfl⟩
    rw [← hcd] at hok hsucc
    repeat (refine gk dkU ?_)
    rw [← hcd]
    (apply r_call; (focus rfl))
    refine apply_spec' L m1 _ c hsn hok X hM _ fun X3 h3 f3 => ?_
    repeat (refine gk dkU ?_)
    refine k_n (i + 1) (by omega) ⟨by omega, hf.trans f3, by rw [hsucc]; exact h3⟩ ?_
    (refine leM ?_ ?_ ?_ <;> (repeat refine leS trivial ?_) <;> exact leE)
  have hi' : i = (d.loose.take k).length := by have : ¬ i < (d.loose.take k).length := by simpa using hc
                                               omega
  subst hi'
  rw [List.take_length] at hM
  repeat (refine gk dkU ?_)
  (apply r_call; (focus rfl))
  refine mclone_spec L m1 _ X hM _ fun m2 X3 hm2 hM3 g3 => ?_
  have x3b := g3.get (by simp) x2b
  repeat (refine gk dkU ?_)
  refine sxk dkU ?_
  intro X4 x4 g4
  repeat (refine gk dkU ?_)
  refine sxk dkU ?_
  intro X5 x5 g5
  repeat (refine gk dkU ?_)
  (apply r_call; (focus rfl))
  have hs5 : (X5.upd b (some (.obj [I d.room, .v (.map (some m2)), .v (.map (some m1)), .sl .no 2 [], h.fv, B d.down, I d.ops, I d.fails, B d.done, I d.wrong]))).sub X5 :=
    sub_upd x5 ⟨Weak.refl _, Weak.refl _, Weak.refl _, Weak.nil' 2, Weak.refl _, Weak.refl _, Weak.refl _, Weak.refl _, Weak.refl _, Weak.refl _, trivial⟩ (by
      have := fs_one hD.fs
      simp only [List.all_cons, this]; rfl)
  refine Spec.sub hs5 ?_
  generalize hX6 : X5.upd b (some (.obj [I d.room, .v (.map (some m2)), .v (.map (some m1)), .sl .no 2 [], h.fv, B d.down, I d.ops, I d.fails, B d.done, I d.wrong])) = X6
  have g6 : Fr [b] X3 X6 := by rw [← hX6]; exact (g4.trans g5).trans (Fr.set (by simp))
  have b1 : b ≠ m1 := fun e => nm1.1 e.symm
  have g16 : Fr [b, m1] X1 X6 := ((g2.mono (by simp)).trans (hf.mono (by simp))).trans ((g3.mono (by simp)).trans (g6.mono (by simp)))
  have hm2b : m2 ≠ b ∧ m2 ≠ m1 ∧ m2 ∉ fvb h.fv := by
    refine ⟨fun e => ?_, fun e => ?_, fun e => ?_⟩
    · rw [e, x2b] at hm2; cases hm2
    · obtain ⟨r, hr⟩ := hM.held; rw [← e, hm2] at hr; cases hr
    · obtain ⟨r, hr⟩ := (hD.fs.fr g1 (by simp)).held m2 e
      have := hf.get (a := m2) (fun hm => by rw [List.mem_singleton] at hm; exact nm1.2.2.2 (hm ▸ e)) (g2.get (a := m2) (fun hm => by rw [List.mem_singleton] at hm; exact q3 (hm ▸ e)) hr)
      rw [this] at hm2; cases hm2
  have hD6 : KD X6 b ⟨m2, m1, h.fv⟩ { d with sure := appAll d.sure (d.loose.take k), loose := [] } := by
    refine ⟨by rw [← hX6, Heap.upd_same]; rfl, hM3.fr g6 (by simpa using hm2b.1), (hM.fr g3 (by simp)).fr g6 (by simpa using nm1.1), (hD.fs.fr g1 (by simp)).fr g16 (fun a ha hm => ?_), ?_⟩
    · simp only [List.mem_cons, List.not_mem_nil, or_false] at hm
      rcases hm with rfl | rfl
      · exact q3 ha
      · exact nm1.2.2.2 ha
    · simp only [Hd.bs, List.nodup_cons, List.mem_cons, not_or]
      exact ⟨⟨fun e => hm2b.1 e.symm, b1, q3⟩, ⟨hm2b.2.1, hm2b.2.2⟩, nm1.2.2.2, q7⟩
  have o6 : Own H X6 (h.bs b) ((⟨m2, m1, h.fv⟩ : Hd).bs b) := by
    refine ⟨Fr.make2 fun a r ha hr => ?_, fun a ha => ?_⟩
    · refine g16.get (fun hm => ?_) (g1.get (by simp) hr)
      simp only [List.mem_cons, List.not_mem_nil, or_false] at hm
      rcases hm with rfl | rfl
      · exact ha (by simp [Hd.bs])
      · rw [hm1] at hr; cases hr
    · simp only [Hd.bs, List.mem_cons] at ha ⊢
      rcases ha with rfl | rfl | rfl | ha
      · simp
      · refine .inr ?_
        cases hx : H a with
        | none => rfl
        | some r =>
          by_cases hab : a = b
          · exact absurd hab hm2b.1
          · have := hf.get (a := a) (by simpa using hm2b.2.1) (g2.get (a := a) (by simpa using hab) (g1.get (by simp) hx))
            rw [this] at hm2; cases hm2
      · exact .inr hm1
      · simp [ha]
  clear hX6 hs5 x5 x4 g4 g5 x3b hM3 hM hf x2b hM2 g2 hM1 ob1 g16 g6 g3
  refine dpaths_spec L C b _ _ n m hw1 hn X6 hD6 _ fun X7 f7 => ?_
  have hD7 := hD6.fr0 f7
  have o7 := o6.trans (Own.of _ f7)
  have hnow : ({ d with sure := appAll d.sure (d.loose.take k), loose := [] } : Dk).now = appAll d.sure (d.loose.take k) := rfl
  rw [hnow]
  have hsn1 : SN (appAll d.sure (d.loose.take k)) := hw1.sn
  have hll : (appAll d.sure (d.loose.take k)).length ≤ 1048576 := by have := hw1.now_len; rw [hnow] at this; omega
  have hidl : ∀ x ∈ appAll d.sure (d.loose.take k), x.dir = false → x.id < d.f.length := fun x hx => (hw1.ids x hx).2.1
  generalize appAll d.sure (d.loose.take k) = l at *
  repeat (refine gk dkU ?_)
  refine c_loop (Spec_SMono L) (fun (q : Nat × List Fl × List UInt8) => [(0, .h (ptr b)), (2, .h (.sl .no 1 (q.2.2.map U))), (60, .h (.sl .no 1 ((l.map Nm.path).map S))), (61, .h (I l.length)), (62, .h (I q.1))]) (fun _ => [])
    (fun q X => q.1 ≤ l.length ∧ KD X b ⟨m2, m1, h.fv⟩ { d with sure := l, loose := [], f := q.2.1 } ∧ Own H X (h.bs b) ((⟨m2, m1, h.fv⟩ : Hd).bs b) ∧ crashF (l.drop q.1) q.2.1 q.2.2 = crashF l d.f keep ∧ q.2.1.length = d.f.length ∧ (∀ x ∈ q.2.1, x.b.length ≤ m ∧ x.safe ≤ x.b.length) ∧ q.2.2.length ≤ 9223372036854775807) (fun q => l.length - q.1) (0, d.f, keep) ?_ ⟨by simp, hD7, o7, rfl, rfl, hw.sz, hkl⟩ ?_
  · (refine leM ?_ ?_ ?_ <;> (repeat refine leS dkU ?_) <;> exact leE)
  clear hD7 o7 f7
  rintro ⟨j, f, kp⟩ X8 ⟨hj, hD8, o8, hcr, hfl, hsz, hkp⟩
  dsimp only at hj hD8 o8 hcr hfl hsz hkp ⊢
  have ob8 := hD8.ob
  repeat (refine gk dkU ?_)
  (refine ct dkU ?_ ?_ <;> intro hcj)
  rotate_left
  · have hj' : j = l.length := by have : ¬ j < l.length := by simpa using hcj
                                  omega
    subst hj'
    rw [List.drop_length, crashF] at hcr
    rw [← hcr] at hk
    repeat (refine gk dkU ?_)
    refine sxk dkU ?_
    intro Y1 y1 e1
    repeat (refine gk dkU ?_)
    refine sxk dkU ?_
    intro Y2 y2 e2
    repeat (refine gk dkU ?_)
    refine sxk dkU ?_
    intro Y3 y3 e3
    repeat (refine gk dkU ?_)
    refine sxk dkU ?_
    intro Y4 y4 e4
    have e14 := ((e1.trans e2).trans e3).trans e4
    repeat (refine gk dkU ?_)
    exact resK_some (hk Y4 ⟨m2, m1, h.fv⟩ (hD8.cell e14 y4 rfl rfl rfl) (o8.trans (Own.cell e14)))
  have hj' : j < l.length := by simpa using hcj
  have hgi : ((l.map Nm.path).map S)[j]? = some (S l[j].path) := by simp [hj']
  rw [List.drop_eq_getElem_cons hj', crashF] at hcr
  have hmem := List.getElem_mem hj'
  have hg := getN_of hsn1.nd hmem
  have hid := hidl _ hmem
  generalize l[j] = x at hgi hcr hmem hg hid
  repeat (refine gk dkU ?_)
  (apply r_call; (focus rfl))
  refine dfile_spec L b _ { d with sure := l, loose := [], f := f } x.path hsn1 (fun y hy hyd => by show y.id < f.length; rw [hfl]; exact hidl y hy hyd) X8 hD8 _ ?_
  have hfd : fileD ({ d with sure := l, loose := [], f := f } : Dk).now x.path = if x.dir then 9 else 0 := by show fileD l x.path = _; unfold fileD; rw [hg]
  have hidd : idD ({ d with sure := l, loose := [], f := f } : Dk).now x.path = x.id := by show idD l x.path = _; unfold idD; rw [hg]
  rw [hfd, hidd]
  cases c2 : x.dir
  case true =>
    rw [if_pos c2] at hcr
    repeat (refine gk dkU ?_)
    refine k_n (j + 1, f, kp) (by simp only; omega) ⟨by simp only; omega, hD8, o8, hcr, hfl, hsz, hkp⟩ ?_
    (refine leM ?_ ?_ ?_ <;> (repeat refine leS trivial ?_) <;> exact leE)
  rw [if_neg (by simp [c2])] at hcr
  have hi := hid c2
  rw [← hfl] at hi
  obtain ⟨fb, c, zs, hfv, k1, k2⟩ := hD8.row hi
  dsimp only at hfv k1 k2
  rw [getD_at hi] at hcr
  have hszi := hsz _ (List.getElem_mem hi)
  simp only [Bool.false_eq_true, if_false, if_true]
  rw [fpV_of hfv]
  have hfbb : b ≠ fb := fun e => q3 (by rw [hfv]; simp [fvb, e])
  dsimp only at hcr
  have hD8s := hD8
  repeat (refine gk dkU ?_)
  apply r_load; (focus rfl); (focus exact k1); (focus exact load_fl0 hi (by simp) zs)
  repeat (refine gk dkU ?_)
  apply r_load; (focus rfl); (focus exact k1); (focus exact load_fl1 hi (by simp) zs)
  repeat (refine gk dkU ?_)
  have hcase : (decide ((0 : Int) < (f[x.id].b.length : Int) - (f[x.id].safe : Int)) = false ∧ ∃ s kpN, s = f[x.id].safe ∧ kpN = kp) ∨ (decide ((0 : Int) < (f[x.id].b.length : Int) - (f[x.id].safe : Int)) = true ∧ kp = [] ∧ ∃ s kpN, s = f[x.id].safe ∧ kpN = kp) ∨
      (decide ((0 : Int) < (f[x.id].b.length : Int) - (f[x.id].safe : Int)) = true ∧ ∃ k0 kpN s, kp = k0 :: kpN ∧ s = f[x.id].safe + k0.toNat % (f[x.id].b.length - f[x.id].safe + 1)) := by
    cases hd : decide ((0 : Int) < (f[x.id].b.length : Int) - (f[x.id].safe : Int))
    · exact .inl ⟨rfl, _, _, rfl, rfl⟩
    · cases kp with
      | nil => exact .inr (.inl ⟨rfl, rfl, _, _, rfl, rfl⟩)
      | cons k0 ks => exact .inr (.inr ⟨rfl, k0, ks, _, rfl, rfl⟩)
  rcases hcase with ⟨hd, s, kpN, hsd, hkd⟩ | ⟨hd, hk0, s, kpN, hsd, hkd⟩ | ⟨hd, k0, kpN, s, hkd, hsd⟩
  · rw [if_neg (by simp at hd; omega)] at hcr
    rw [hd]
    repeat (refine gk dkU ?_)
    apply r_load; (focus rfl); (focus exact k1); (focus exact load_fl0 hi (by simp) zs)
    repeat (refine gk dkU ?_)
    apply r_load; (focus rfl); (focus exact k1); (focus exact load_fl1 hi (by simp) zs)
    repeat (refine gk dkU ?_)
    apply r_load; (focus rfl); (focus exact k1); (focus exact load_fl1 hi (by simp) zs)
    repeat (refine gk dkU ?_)
    apply r_slcT (k := f[x.id].safe); (focus rfl); (focus rfl); (focus rfl); (focus rfl); (focus rfl); (focus (simp; exact hszi.2))
    rw [← List.map_take]
    rw [fsw_of hi] at k1
    repeat (refine gk dkU ?_)
    apply r_storeO; (focus rfl); (focus rfl); (focus rfl); (focus rfl); (focus exact k1); (focus (have := fsw_len (v := .sl .no 1 (f[x.id].b.map U)) (w := I f[x.id].safe) (zs := zs) hi; omega))
    intro Y9 y9 e9
    have y9' : Y9 fb = some (.obj (fsw f x.id (.sl .full 1 ((f[x.id].b.take f[x.id].safe).map U)) (I f[x.id].safe) zs)) := by
      rw [y9]
      have e : setL (fsw f x.id (.sl .no 1 (f[x.id].b.map U)) (I f[x.id].safe) zs) (x.id * 2 + 0) (HV.sl .full 1 ((f[x.id].b.take f[x.id].safe).map U)).cells = (fsw f x.id (.sl .no 1 (f[x.id].b.map U)) (I f[x.id].safe) zs).set (x.id * 2) (.sl .full 1 ((f[x.id].b.take f[x.id].safe).map U)) := rfl
      rw [e, fsw_set0 hi]
    obtain ⟨Z, hvs, hZ, oZ⟩ := vs_file' (s := f[x.id].safe) hD8 hfv k2 hi y9' e9 (Weak.drop _ _ _)
    refine r_nil (n_n (b_n (s_v (hvs _) ?_)))
    repeat (refine gk dkU ?_)
    refine k_n (j + 1, f.set x.id ⟨f[x.id].b.take f[x.id].safe, f[x.id].safe⟩, kp) (by simp only; omega) ⟨by simp only; omega, hZ, o8.trans oZ, hcr, by simpa using hfl, fun y hy => ?_, hkp⟩ ?_
    · rcases List.mem_or_eq_of_mem_set hy with hy | rfl
      · exact hsz y hy
      · simp only [List.length_take]; omega
    (refine leM ?_ ?_ ?_ <;> (repeat refine leS trivial ?_) <;> exact leE)
  · subst hk0
    rw [if_neg (by simp)] at hcr
    rw [hd]
    repeat (refine gk dkU ?_)
    apply r_load; (focus rfl); (focus exact k1); (focus exact load_fl0 hi (by simp) zs)
    repeat (refine gk dkU ?_)
    apply r_load; (focus rfl); (focus exact k1); (focus exact load_fl1 hi (by simp) zs)
    repeat (refine gk dkU ?_)
    apply r_load; (focus rfl); (focus exact k1); (focus exact load_fl1 hi (by simp) zs)
    repeat (refine gk dkU ?_)
    apply r_slcT (k := f[x.id].safe); (focus rfl); (focus rfl); (focus rfl); (focus rfl); (focus rfl); (focus (simp; exact hszi.2))
    rw [← List.map_take]
    rw [fsw_of hi] at k1
    repeat (refine gk dkU ?_)
    apply r_storeO; (focus rfl); (focus rfl); (focus rfl); (focus rfl); (focus exact k1); (focus (have := fsw_len (v := .sl .no 1 (f[x.id].b.map U)) (w := I f[x.id].safe) (zs := zs) hi; omega))
    intro Y9 y9 e9
    have y9' : Y9 fb = some (.obj (fsw f x.id (.sl .full 1 ((f[x.id].b.take f[x.id].safe).map U)) (I f[x.id].safe) zs)) := by
      rw [y9]
      have e : setL (fsw f x.id (.sl .no 1 (f[x.id].b.map U)) (I f[x.id].safe) zs) (x.id * 2 + 0) (HV.sl .full 1 ((f[x.id].b.take f[x.id].safe).map U)).cells = (fsw f x.id (.sl .no 1 (f[x.id].b.map U)) (I f[x.id].safe) zs).set (x.id * 2) (.sl .full 1 ((f[x.id].b.take f[x.id].safe).map U)) := rfl
      rw [e, fsw_set0 hi]
    obtain ⟨Z, hvs, hZ, oZ⟩ := vs_file' (s := f[x.id].safe) hD8 hfv k2 hi y9' e9 (Weak.drop _ _ _)
    refine r_nil (n_n (b_n (s_v (hvs _) ?_)))
    repeat (refine gk dkU ?_)
    refine k_n (j + 1, f.set x.id ⟨f[x.id].b.take f[x.id].safe, f[x.id].safe⟩, []) (by simp only; omega) ⟨by simp only; omega, hZ, o8.trans oZ, hcr, by simpa using hfl, fun y hy => ?_, hkp⟩ ?_
    · rcases List.mem_or_eq_of_mem_set hy with hy | rfl
      · exact hsz y hy
      · simp only [List.length_take]; omega
    (refine leM ?_ ?_ ?_ <;> (repeat refine leS trivial ?_) <;> exact leE)
  · subst hkd
    have hd' : f[x.id].safe < f[x.id].b.length := by simp at hd; omega
    rw [if_pos ⟨hd', by simp⟩] at hcr
    simp only [List.headD_cons, List.tail_cons] at hcr
    rw [← hsd] at hcr
    rw [hd]
    have hk8 := k0.toNat_lt
    have hlt := Nat.mod_lt k0.toNat (show f[x.id].b.length - f[x.id].safe + 1 > 0 by omega)
    have hs : s ≤ f[x.id].b.length := by omega
    repeat (refine gk dkU ?_)
    (refine ct dkU ?_ ?_ <;> intro hq)
    rotate_left
    · simp at hq
    repeat (refine gk dkU ?_)
    apply r_load; (focus rfl); (focus exact k1); (focus exact load_fl1 hi (by simp) zs)
    repeat (refine gk dkU ?_)
    have hb0 := Int.emod_nonneg (k0.toNat : Int) (show (f[x.id].b.length : Int) - (f[x.id].safe : Int) + 1 ≠ 0 by omega)
    have hb1 := Int.emod_lt_of_pos (k0.toNat : Int) (show (f[x.id].b.length : Int) - (f[x.id].safe : Int) + 1 > 0 by omega)
    have hse : (f[x.id].safe : Int) + (k0.toNat : Int) % ((f[x.id].b.length : Int) - (f[x.id].safe : Int) + 1) = (s : Int) := by
      rw [hsd]
      have e : (f[x.id].b.length : Int) - (f[x.id].safe : Int) + 1 = ((f[x.id].b.length - f[x.id].safe + 1 : Nat) : Int) := by omega
      rw [e, ← Int.natCast_emod, ← Int.natCast_add]
    rw [hse, wrap_in (by omega) (by omega)]
    rw [fsw_of hi] at k1
    apply r_storeO; (focus rfl); (focus rfl); (focus rfl); (focus rfl); (focus exact k1); (focus (have := fsw_len (v := .sl .no 1 (f[x.id].b.map U)) (w := I f[x.id].safe) (zs := zs) hi; omega))
    intro Y8 y8 e8
    have y8' : Y8 fb = some (.obj (fsw f x.id (.sl .no 1 (f[x.id].b.map U)) (I s) zs)) := by
      rw [y8]
      have e : setL (fsw f x.id (.sl .no 1 (f[x.id].b.map U)) (I f[x.id].safe) zs) (x.id * 2 + 1) (I (s : Int)).cells = (fsw f x.id (.sl .no 1 (f[x.id].b.map U)) (I f[x.id].safe) zs).set (x.id * 2 + 1) (I (s : Int)) := rfl
      rw [e, fsw_set1 hi]
    repeat (refine gk dkU ?_)
    apply r_slcD (k := 1); (focus rfl); (focus rfl); (focus rfl); (focus simp)
    rw [List.map_cons, List.drop_succ_cons, List.drop_zero]
    repeat (refine gk dkU ?_)
    apply r_load; (focus rfl); (focus exact y8'); (focus exact load_at (fsw_get0 hi))
    repeat (refine gk dkU ?_)
    apply r_load; (focus rfl); (focus exact y8'); (focus exact load_at (fsw_get1 hi))
    repeat (refine gk dkU ?_)
    apply r_load; (focus rfl); (focus exact y8'); (focus exact load_at (fsw_get1 hi))
    repeat (refine gk dkU ?_)
    apply r_slcT (k := s); (focus rfl); (focus rfl); (focus rfl); (focus rfl); (focus rfl); (focus (simp; exact hs))
    rw [← List.map_take]
    repeat (refine gk dkU ?_)
    apply r_storeO; (focus rfl); (focus rfl); (focus rfl); (focus rfl); (focus exact y8'); (focus (have := fsw_len (v := .sl .no 1 (f[x.id].b.map U)) (w := I s) (zs := zs) hi; omega))
    intro Y9 y9 e9
    have y9' : Y9 fb = some (.obj (fsw f x.id (.sl .full 1 ((f[x.id].b.take s).map U)) (I s) zs)) := by
      rw [y9]
      have e : setL (fsw f x.id (.sl .no 1 (f[x.id].b.map U)) (I s) zs) (x.id * 2 + 0) (HV.sl .full 1 ((f[x.id].b.take s).map U)).cells = (fsw f x.id (.sl .no 1 (f[x.id].b.map U)) (I s) zs).set (x.id * 2) (.sl .full 1 ((f[x.id].b.take s).map U)) := rfl
      rw [e, fsw_set0 hi]
    obtain ⟨Z, hvs, hZ, oZ⟩ := vs_file' (s := s) hD8 hfv k2 hi y9' (e8.trans e9) (Weak.drop _ _ _)
    refine r_nil (n_n (b_n (s_v (hvs _) ?_)))
    repeat (refine gk dkU ?_)
    refine k_n (j + 1, f.set x.id ⟨f[x.id].b.take s, s⟩, kpN) (by simp only; omega) ⟨by simp only; omega, hZ, o8.trans oZ, hcr, by simpa using hfl, fun y hy => ?_, by have h9 := hkp; simp only [List.length_cons] at h9 ⊢; omega⟩ ?_
    · rcases List.mem_or_eq_of_mem_set hy with hy | rfl
      · exact hsz y hy
      · simp only [List.length_take]; omega
    (refine leM ?_ ?_ ?_ <;> (repeat refine leS trivial ?_) <;> exact leE)
end Sm
