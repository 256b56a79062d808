/-
  A layer of one's own: texts D15,D16.
-/
import Derived.Test.YtmdfajhlofhmcaaDoorSmDD
import Derived.Test.YtmdfajhlofhmcaaDoorSmLT
import Derived.Test.YtmdfajhlofhmcaaDoorSmTG
set_option linter.unusedVariables false
set_option linter.unusedSimpArgs false
set_option maxRecDepth 10000
set_option maxHeartbeats 1000000
namespace Sm
open Go
-- BASE dkU
/-- A slice of texts of one's own; or there are none. -/
def TS (H X : Heap) (v : HV) (l : List (List UInt8)) : Prop := (v = .v (.slice none 0 0) ∧ l = []) ∨
  ∃ a c zs, v = .v (.slice (some ⟨a, 0, none⟩) l.length c) ∧ X a = some (.obj (l.map S ++ zs)) ∧ l.length ≤ c ∧ c ≤ maxLen ∧ H a = none
/-- The library's Collect over a map's keys, and its sort over texts. -/
structure Cl (L : Linked code) where
  cl : ∀ (c b : Nat) (l : List Nm) (H : Heap) (K : HV → Heap → Prop), H c = some (.obj [.v (.map (some b))]) → PM H b l → l.length ≤ 1048576 → (∀ n ∈ l, n.path.length ≤ 1048576) →
    (∀ v ss X, ss.Perm (l.map Nm.path) → TS H X v ss → Fr [] H X → K v X) → Spec L.P L.ν 90 [.fn 369 [ptr c]] H K
  s1 : ∀ n, L.ν n = some 362 → SortAt1 L.P n
  Q : Linked code
  pt : Part L Q 363
theorem lessP_nt (x y z : List UInt8) (h1 : lessP x y = false) (h2 : lessP y z = false) : lessP x z = false := by
  by_cases e1 : x = y
  · subst e1; exact h2
  by_cases e2 : y = z
  · subst e2; exact h1
  have h3 := lessP_tot h1 e1
  have h4 := lessP_tot h2 e2
  cases h : lessP x z
  · rfl
  · have := lessP_trans (lessP_trans h h4) h3
    rw [lessP_irr] at this; cases this
def cfP (x y : List UInt8) : Int := if lessP x y then -1 else if lessP y x then 1 else 0
theorem cfP_lt (x y : List UInt8) : decide (cfP x y < 0) = lessP x y := by
  unfold cfP
  cases h1 : lessP x y
  · cases h2 : lessP y x <;> rfl
  · rfl
/-- What rises strictly is sorted, and nothing else of the same. -/
theorem sorted_eq : ∀ {a b : List (List UInt8)}, a.Perm b → a.Pairwise (fun x y => lessP y x = false) → b.Pairwise (fun x y => lessP x y = true) → a = b := by
  intro a b hp ha hb
  have hbn : b.Nodup := hb.imp fun {x y} h e => by rw [e, lessP_irr] at h; cases h
  have han : a.Nodup := hp.nodup_iff.mpr hbn
  have ha2 : a.Pairwise (fun x y => lessP x y = true) := by
    refine (List.Pairwise.and ha han).imp fun {x y} h => ?_
    exact lessP_tot (by
      cases hc : lessP x y
      · exact absurd (lessP_tot hc h.2) (by rw [h.1]; decide)
      · exact h.1) (fun e => h.2 e.symm) |> fun h' => by
        cases hc : lessP x y
        · exact absurd (lessP_tot hc h.2) (by rw [h.1]; decide)
        · rfl
  exact hp.eq_of_pairwise (fun x y _ _ h1 h2 => by have := lessP_trans h1 h2; rw [lessP_irr] at this; cases this) ha2 hb
attribute [local irreducible] csem rsem dsem seqK blockK normK finK DK RK JK BR G3 resK Spec Tok Fr CV

theorem cmpP_spec (L : Linked code) (x y : List UInt8) (hx : x.length ≤ 1048576) (hy : y.length ≤ 1048576) (H : Heap) (K) (hk : ∀ X, Fr [] H X → K (I (cfP x y)) X) : Spec L.P L.ν 363 [S x, S y] H K := by
  unfold cfP at hk
  refine go_spec L code363 rfl ?_
  repeat (refine gk dkU ?_)
  (apply r_call; (focus rfl))
  refine less_spec L x y hx hy H _ fun X1 f1 => ?_
  repeat (refine gk dkU ?_)
  cases c1 : lessP x y
  case true =>
    rw [c1] at hk
    repeat (refine gk dkU ?_)
    exact resK_some (hk X1 f1)
  rw [c1] at hk
  simp only [Bool.false_eq_true, if_false] at hk
  repeat (refine gk dkU ?_)
  (apply r_call; (focus rfl))
  refine less_spec L y x hy hx X1 _ fun X2 f2 => ?_
  repeat (refine gk dkU ?_)
  cases c2 : lessP y x
  case true =>
    rw [c2] at hk
    repeat (refine gk dkU ?_)
    exact resK_some (hk X2 (f1.trans f2))
  rw [c2] at hk
  simp only [Bool.false_eq_true, if_false] at hk
  repeat (refine gk dkU ?_)
  exact resK_some (hk X2 (f1.trans f2))
theorem Spec_and {L : Linked code} {g : Nat} {args : List HV} {H : Heap} {Q Q' : HV → Heap → Prop} (hq : ∀ r X, Q r X → Q' r X) (h : Spec L.P L.ν g args H Q) : Spec L.P L.ν g args H Q' := Spec_mono hq h
theorem dpaths_spec (L : Linked code) (C : Cl L) (b : Nat) (h : Hd) (d : Dk) (n m : Nat) (hw : d.WF n m) (hn : n < 1048576) (H : Heap) (hD : KD H b h d) (K) (hk : ∀ X, Fr [] H X → K (.sl .no 1 ((d.now.map Nm.path).map S)) X) : Spec L.P L.ν 331 [ptr b] H K := by
  have ob := hD.ob
  have hlen : d.now.length ≤ n := hw.now_len
  have hok : ∀ x ∈ d.now.map Nm.path, x.length ≤ 1048576 := fun x hx => by
    obtain ⟨y, hy, rfl⟩ := List.mem_map.mp hx
    have := chkP_len (hw.now_ok y hy).2.2
    omega
  have hsr : (d.now.map Nm.path).Pairwise (fun x y => lessP x y = true) := List.pairwise_map.mpr hw.now_sn
  refine Spec.give ?_
  refine go_spec L code331 rfl ?_
  repeat (refine gk dkU ?_)
  (apply r_call; (focus rfl))
  refine Spec_and (Q := fun r X => ∃ c, H c = none ∧ r = .fn 369 [ptr c] ∧ X c = some (.obj [.v (.map (some h.mn))]) ∧ Fr [] H X) ?_ ?_
  rotate_left
  · refine go_spec L code361 rfl ?_
    repeat (refine gk dkU ?_)
    refine bxk dkU ?_
    intro c X hc xc fc _
    repeat (refine gk dkU ?_)
    exact resK_some ⟨c, hc, rfl, xc, fc⟩
  rintro r X1 ⟨c, hc, rfl, xc, f1⟩
  have hD1 := hD.fr0 f1
  repeat (refine gk dkU ?_)
  (apply r_call; (focus rfl))
  refine C.cl c h.mn d.now X1 _ xc hD1.no (by omega) (fun x hx => hok _ (List.mem_map_of_mem hx)) fun v ss X2 hp hT f2 => ?_
  have hf2 := f1.trans f2
  repeat (refine gk dkU ?_)
  rcases hT with ⟨rfl, rfl⟩ | ⟨a, cc, zs, rfl, ha, hc1, hc2, hc3⟩
  · have hz : d.now.map Nm.path = [] := List.nil_perm.mp hp
    repeat (refine gk dkU ?_)
    (apply r_call; (focus rfl))
    refine sortS0_spec L C.s1 X2 _ ?_
    repeat (refine gk dkU ?_)
    refine resK_some (.inr (.inl ⟨_, Weak.nil' 1, ?_⟩))
    have := hk X2 hf2
    rw [hz] at this; exact this
  · have hl := hp.length_eq
    rw [List.length_map] at hl
    repeat (refine gk dkU ?_)
    (apply r_call; (focus rfl))
    refine sortS_spec L C.Q C.pt (fun x => x.length ≤ 1048576) C.s1 lessP (fun x _ => lessP_irr x) (fun x y z _ _ _ => lessP_trans) (fun x y z _ _ _ => lessP_nt x y z) cfP cfP_lt (fun x y hx hy => cmpP_spec C.Q x y hx hy noR _ fun X _ => rfl) ss (fun x hx => hok x (hp.mem_iff.mp hx)) a ss.length cc zs X2 ha rfl (by omega) _ fun l' X3 hp' hs' h3 f3 => ?_
    have he : l' = d.now.map Nm.path := sorted_eq (hp'.trans hp) hs' hsr
    subst he
    repeat (refine gk dkU ?_)
    refine resK_some (.inr (.inr ⟨a, _, _, h3, FW.slice (sz := 1) (es := (d.now.map Nm.path).map S) ?_ ?_ ?_ hc1 hc2 ?_ ?_, ?_⟩))
    · have e1 : ((d.now.map Nm.path).map S).flatMap HV.cells = (d.now.map Nm.path).map S := one_S _
      rw [e1, List.take_append_of_le_length (by simp [hl]), List.take_of_length_le (by simp [hl])]
    · simp [hl]
    · simp [hl]
    · rw [List.all_eq_true]; intro x hx; obtain ⟨y, _, rfl⟩ := List.mem_map.mp hx; rfl
    · intro x hx; obtain ⟨y, _, rfl⟩ := List.mem_map.mp hx; rfl
    · refine hk _ ?_
      have ha2 : X1 a = none := hc3
      have f13 : Fr [] X1 (X3.upd a none) := Fr.give (f2.own ha2 f3) ha2
      exact f1.trans f13
end Sm

set_option linter.unusedVariables false
set_option linter.unusedSimpArgs false
set_option maxRecDepth 10000
set_option maxHeartbeats 1000000
namespace Sm
open Go
-- BASE dkU
/-- A slice that grows; or none. -/
def gSl (tk : Tk) (sz : Nat) : List HV → HV
  | [] => .v (.slice none 0 0)
  | x :: l => .sl tk sz (x :: l)
theorem gSl_weak (tk : Tk) (sz : Nat) (es : List HV) : Weak (gSl tk sz es) (.sl .no sz es) := by
  cases es with
  | nil => exact Weak.nil' sz
  | cons x l => exact Weak.drop _ _ _
theorem r_pushG {S' : SpecT} {sl : List (Nat × EV)} {bx : List (Nat × List HV)} {H : Heap} {K : Env → Heap → Prop} {os : List SOper} {d sz bytes : Nat} {x y : Opd} {tk tk2 : Tk} {es : List HV} {e : HV} (ht : Tok H tk es.length sz) (hn : es = [] → tk = .full) (hx : (M sl bx).hv x = some (gSl tk sz es)) (hy : (M sl bx).hv y = some (.sl tk2 sz [e])) (hl : (es.length + 1) * bytes ≤ 140737488355328)
    (hk : ∀ tk' X, Apd H X tk tk' → Tok X tk' (es ++ [e]).length sz → rsem S' os (M ((d, .h (gSl tk' sz (es ++ [e]))) :: sl) bx) X K) : rsem S' (⟨some d, .app sz bytes x y, none⟩ :: os) (M sl bx) H K := by
  cases es with
  | nil =>
    have e1 := hn rfl
    subst e1
    exact r_app0 hx hy (by simpa using hl) (fun h0 => by cases h0) fun tk' X _ h1 h2 => hk tk' X h2 h1
  | cons a l =>
    refine r_app hx hy (by simpa using ht) (by simpa using hl) fun tk' X h1 h2 => ?_
    exact hk tk' X h2 (by simpa using h1)
theorem CB.fr {H X : Heap} {bs : List Nat} {v : HV} {l : List UInt8} (h : CB H v l) (hf : Fr bs H X) (hb : ∀ a ∈ fvb v, a ∉ bs) : CB X v l := by
  rcases h with h | h | ⟨a, c, zs, rfl, h, h2⟩
  · exact .inl h
  · exact .inr (.inl h)
  · exact .inr (.inr ⟨a, c, zs, rfl, hf.get (hb a (by simp [fvb])) h, h2⟩)
theorem CB.held {H : Heap} {v : HV} {l : List UInt8} (h : CB H v l) : ∀ a ∈ fvb v, ∃ cs, H a = some (.obj cs) := by
  rcases h with ⟨rfl, _⟩ | ⟨rfl, _⟩ | ⟨a, c, zs, rfl, h, _⟩
  · simp [fvb]
  · simp [fvb]
  · intro x hx; simp only [fvb, List.mem_singleton] at hx; subst hx; exact ⟨_, h⟩
def encO (x : Eo) : HV := .ag (cO x)
/-- Entries with bytes of one's own. -/
def EB (H X : Heap) (l : List Eo) : Prop := ∀ x ∈ l, CB X x.v x.e.data ∧ ∀ a ∈ fvb x.v, H a = none
theorem EB.fr {H X Y : Heap} {bs : List Nat} {l : List Eo} (h : EB H X l) (hf : Fr bs X Y) (hb : ∀ a ∈ bs, ∀ cs, X a ≠ some (.obj cs)) : EB H Y l := fun x hx => by
  obtain ⟨h1, h2⟩ := h x hx
  refine ⟨h1.fr hf fun a ha hm => ?_, h2⟩
  obtain ⟨cs, hc⟩ := h1.held a ha
  exact hb a hm cs hc
/-- No two have the same bytes. -/
def ED (l : List Eo) : Prop := l.Pairwise fun x y => ∀ a ∈ fvb x.v, a ∉ fvb y.v
theorem ED.push {H X : Heap} {l : List Eo} {y : Eo} (h : ED l) (he : EB H X l) (hy : ∀ a ∈ fvb y.v, X a = none) : ED (l ++ [y]) := by
  unfold ED
  rw [List.pairwise_append]
  refine ⟨h, List.pairwise_singleton _ _, fun x hx z hz a ha hm => ?_⟩
  rw [List.mem_singleton] at hz; subst hz
  obtain ⟨cs, hc⟩ := (he x hx).1.held a ha
  rw [hy a hm] at hc; cases hc
/-- A name as an entry. -/
def entN (f : List Fl) (n : Nm) : Ent := ⟨n.path, n.dir, if n.dir then [] else (f.getD n.id default).b⟩
theorem list_eq (d : Dk) : d.list = if d.down then [] else d.now.map (entN d.f) := rfl
attribute [local irreducible] csem rsem dsem seqK blockK normK finK DK RK JK BR G3 resK Spec Tok Fr CV

theorem dlist_spec (L : Linked code) (C : Cl L) (b : Nat) (h : Hd) (d : Dk) (n m : Nat) (hw : d.WF n m) (hn : n < 1048576) (hm : m ≤ 140737488355328) (H : Heap) (hD : KD H b h d) (K) (hk : ∀ eos X, eos.map Eo.e = d.list → EB H X eos → ED eos → Fr [] H X → K (.sl .no 3 (eos.map encO)) X) : Spec L.P L.ν 312 [ptr b] H K := by
  rw [list_eq] at hk
  refine go_spec L code312 rfl ?_
  repeat (refine gk dkU ?_)
  (apply r_call; (focus rfl))
  refine asked0_spec L b h d H hD _ fun X1 f1 => ?_
  have hD1 := hD.fr0 f1
  cases c1 : d.down
  case true =>
    rw [if_pos c1] at hk
    repeat (refine gk dkU ?_)
    exact resK_weak (Weak.nil' 3) (hk [] X1 rfl (by simp [EB]) List.Pairwise.nil f1)
  rw [if_neg (by simp [c1])] at hk
  simp only [Bool.false_eq_true, if_false]
  repeat (refine gk dkU ?_)
  (apply r_call; (focus rfl))
  refine dpaths_spec L C b h d n m hw hn X1 hD1 _ fun X2 f2 => ?_
  have f12 := f1.trans f2
  have hlen := hw.now_len
  repeat (refine gk dkU ?_)
  refine c_loop (Spec_SMono L) (fun (q : Nat × Tk × List Eo) => [(0, .h (ptr b)), (3, .h (gSl q.2.1 3 (q.2.2.map encO))), (13, .h (.sl .no 1 ((d.now.map Nm.path).map S))), (14, .h (I d.now.length)), (15, .h (I q.1))]) (fun _ => [])
    (fun q X => q.1 ≤ d.now.length ∧ Fr [] H X ∧ Fresh H q.2.1 ∧ EB H X q.2.2 ∧ ED q.2.2 ∧ q.2.2.map Eo.e = (d.now.map (entN d.f)).take q.1 ∧ Tok X q.2.1 (q.2.2.map encO).length 3 ∧ (q.2.2.map encO = [] → q.2.1 = .full)) (fun q => d.now.length - q.1) (0, .full, []) ?_ ⟨by simp, f12, by simp [Fresh, tb], by simp [EB], List.Pairwise.nil, by simp, Tok.ful _ _ _, fun _ => rfl⟩ ?_
  · (refine leM ?_ ?_ ?_ <;> (repeat refine leS dkU ?_) <;> exact leE)
  rintro ⟨i, tk, eos⟩ X ⟨hi, hf, hfr, hE, hED, hM, ht, hnil⟩
  dsimp only at hi hf hfr hE hED hM ht hnil ⊢
  have hDX := hD.fr0 hf
  have obX := hDX.ob
  repeat (refine gk dkU ?_)
  (refine ct dkU ?_ ?_ <;> intro hc)
  · have hi' : i < d.now.length := by simpa using hc
    have hgi : ((d.now.map Nm.path).map S)[i]? = some (S d.now[i].path) := by simp [hi']
    have hmem := List.getElem_mem hi'
    have hg := getN_of hw.now_sn.nd hmem
    have hok := hw.now_ok _ hmem
    have hnext : (d.now.map (entN d.f)).take (i + 1) = eos.map Eo.e ++ [entN d.f d.now[i]] := by
      rw [List.take_succ_eq_append_getElem (by simpa using hi'), ← hM]; simp
    have hel : (eos.map encO).length = i := by
      have := congrArg List.length hM
      simp only [List.length_map, List.length_take] at this ⊢; omega
    generalize d.now[i] = x at hgi hmem hg hok hnext
    repeat (refine gk dkU ?_)
    apply r_lkpN1 hDX.no hw.now_sn; (focus rfl)
    rw [hg]
    repeat (refine gk dkU ?_)
    (apply r_call; (focus rfl))
    refine dfile_spec L b h d x.path hw.now_sn (fun x hx => (hw.now_ok x hx).2.1) X hDX _ ?_
    have hfd : fileD d.now x.path = if x.dir then 9 else 0 := by unfold fileD; rw [hg]
    have hidd : idD d.now x.path = x.id := by unfold idD; rw [hg]
    rw [hfd, hidd]
    cases c2 : x.dir
    case true =>
      have hent : entN d.f x = ⟨x.path, true, []⟩ := by simp [entN, c2]
      simp only [dirO, c2]
      repeat (refine gk dkU ?_)
      refine r_pushG (es := eos.map encO) (e := encO ⟨⟨x.path, true, []⟩, .v (.slice none 0 0)⟩) ht hnil rfl rfl (by rw [hel]; omega) fun tk' X' ha ht' => ?_
      have hE' : EB H X' (eos ++ [⟨⟨x.path, true, []⟩, .v (.slice none 0 0)⟩]) := by
        intro y hy
        rcases List.mem_append.mp hy with hy | hy
        · exact hE.fr ha.fr (fun a ham cs hcs => absurd rfl (ht.ne' hcs a ham)) y hy
        · rw [List.mem_singleton] at hy; subst hy; exact ⟨.inl ⟨rfl, rfl⟩, by simp [fvb]⟩
      repeat (refine gk dkU ?_)
      refine k_n (i + 1, tk', eos ++ [⟨⟨x.path, true, []⟩, .v (.slice none 0 0)⟩]) (by simp only; omega) ⟨by simp only; omega, hf.apd hfr ha, hfr.apd hf ha, hE', hED.push hE (by simp [fvb]), by simp only [hnext, hent, List.map_append]; rfl, by simpa using ht', by simp⟩ ?_
      (refine leM ?_ ?_ ?_ <;> (repeat refine leS trivial ?_) <;> exact leE)
    have hent : entN d.f x = ⟨x.path, false, (d.f.getD x.id default).b⟩ := by simp [entN, c2]
    have hid := hok.2.1 c2
    rw [getD_at hid] at hent
    obtain ⟨fb, c, zs, hfv, k1, k2⟩ := hDX.row hid
    rw [hfv] at obX
    simp only [dirO, c2, Bool.false_eq_true, if_false, if_true]
    rw [fpV_of hfv]
    have hsz := hw.sz _ (List.getElem_mem hid)
    repeat (refine gk dkU ?_)
    apply r_load; (focus rfl); (focus exact k1); (focus exact load_fl0 hid (by simp) zs)
    repeat (refine gk dkU ?_)
    (apply r_call; (focus rfl))
    refine cloneC_spec L .no _ (by omega) X _ fun v X' hcb fX hnv => ?_
    have hone := hcb.one
    have hE1 := hE.fr fX (by simp)
    have ht1 := ht.fr' fX (by simp)
    repeat (refine gk dkU ?_)
    apply r_storeb; (focus rfl); (focus exact hone.2.2.1); (focus exact hone.2.1); (focus rfl); (focus rfl); (focus rfl); (focus (rw [hone.2.2.2]))
    have e0 : setL [S x.path, B false, .v (.slice none 0 0)] (0 + 2) [v] = [S x.path, B false, v] := rfl
    rw [e0]
    repeat (refine gk dkU ?_)
    apply r_bslice; (focus rfl); (focus (show ((HV.ag (cO ⟨⟨x.path, false, d.f[x.id].b⟩, v⟩)).el && true) = true; rw [cO_el hone.1]; rfl)); (focus rfl)
    refine r_pushG (es := eos.map encO) (e := encO ⟨⟨x.path, false, d.f[x.id].b⟩, v⟩) ht1 hnil rfl rfl (by rw [hel]; omega) fun tk' X2' ha ht' => ?_
    have hfX := hf.trans fX
    have hE' : EB H X2' (eos ++ [⟨⟨x.path, false, d.f[x.id].b⟩, v⟩]) := by
      intro y hy
      rcases List.mem_append.mp hy with hy | hy
      · exact hE1.fr ha.fr (fun a ham cs hcs => absurd rfl (ht1.ne' hcs a ham)) y hy
      · rw [List.mem_singleton] at hy; subst hy
        exact ⟨hcb.fr ha.fr fun a ham hm => by obtain ⟨cs, hcs⟩ := hcb.held a ham; exact absurd rfl (ht1.ne' hcs a hm), fun a ha => hf.of_none (hnv a ha)⟩
    repeat (refine gk dkU ?_)
    refine k_n (i + 1, tk', eos ++ [⟨⟨x.path, false, d.f[x.id].b⟩, v⟩]) (by simp only; omega) ⟨by simp only; omega, hfX.apd hfr ha, hfr.apd hfX ha, hE', hED.push hE hnv, by simp only [hnext, hent, List.map_append]; rfl, by simpa using ht', by simp⟩ ?_
    (refine leM ?_ ?_ ?_ <;> (repeat refine leS trivial ?_) <;> exact leE)
  · have hi' : i = d.now.length := by have : ¬ i < d.now.length := by simpa using hc
                                      omega
    subst hi'
    rw [List.take_of_length_le (by simp)] at hM
    repeat (refine gk dkU ?_)
    exact resK_weak (gSl_weak _ _ _) (hk eos X hM hE hED hf)
end Sm
