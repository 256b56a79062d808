/-
  D15,D16,D17
-/
import Derived.Test.YtegmmhldpmmkeaaGreatDoorSmDB
import Derived.Test.YtegmmhldpmmkeaaGreatDoorSmLT
import Derived.Test.YtegmmhldpmmkeaaGreatDoorSmTC
set_option linter.unusedVariables false
set_option linter.unusedSimpArgs false
set_option maxRecDepth 10000
set_option maxHeartbeats 1000000
namespace Sm
open Go
def TS (H X : Heap) (v : HV) (l : List (List UInt8)) : Prop := (v = .v (.slice none 0 0) ∧ l = []) ∨
 ∃ a c zs, v = .v (.slice (some ⟨a, 0, none⟩) l.length c) ∧ X a = some (.obj (l.map S ++ zs)) ∧ l.length ≤ c ∧ c ≤ maxLen ∧ H a = none
structure Cl (L : Linked code) where
 cl : ∀ (c b : Nat) (l : List Nm) (H : Heap) (K : HV → Heap → Prop), H c = some (.obj [.v (.map (some b))]) → PM H b l → l.length ≤ 1048576 → (∀ n ∈ l, n.path.length ≤ 1048576) →
   (∀ v ss X, ss.Perm (l.map Nm.path) → TS H X v ss → Fr [] H X → K v X) → Spec L.P L.ν 90 [.fn 369 [ptr c]] H K
 s1 : ∀ n, L.ν n = some 362 → SortAt1 L.P n
 Q : Linked code
 pt : Part L Q 363
theorem lessP_nt (x y z : List UInt8) (h1 : lessP x y = false) (h2 : lessP y z = false) : lessP x z = false := by
 by_cases e1 : x = y
 · subst e1; exact h2
 by_cases e2 : y = z
 · subst e2; exact h1
 have h3 := lessP_tot h1 e1
 have h4 := lessP_tot h2 e2
 cases h : lessP x z
 · rfl
 · have := lessP_trans (lessP_trans h h4) h3
   rw [lessP_irr] at this; cases this
def cfP (x y : List UInt8) : Int := if lessP x y then -1 else if lessP y x then 1 else 0
theorem cfP_lt (x y : List UInt8) : decide (cfP x y < 0) = lessP x y := by
 unfold cfP
 cases h1 : lessP x y
 · cases h2 : lessP y x <;> rfl
 · rfl
theorem sorted_eq : ∀ {a b : List (List UInt8)}, a.Perm b → a.Pairwise (fun x y => lessP y x = false) → b.Pairwise (fun x y => lessP x y = true) → a = b := by
 intro a b hp ha hb
 have hbn : b.Nodup := hb.imp fun {x y} h e => by rw [e, lessP_irr] at h; cases h
 have han : a.Nodup := hp.nodup_iff.mpr hbn
 have ha2 : a.Pairwise (fun x y => lessP x y = true) := by
   refine (List.Pairwise.and ha han).imp fun {x y} h => ?_
   exact lessP_tot (by
     cases hc : lessP x y
     · exact absurd (lessP_tot hc h.2) (by rw [h.1]; decide)
     · exact h.1) (fun e => h.2 e.symm) |> fun h' => by
       cases hc : lessP x y
       · exact absurd (lessP_tot hc h.2) (by rw [h.1]; decide)
       · rfl
 exact hp.eq_of_pairwise (fun x y _ _ h1 h2 => by have := lessP_trans h1 h2; rw [lessP_irr] at this; cases this) ha2 hb
attribute [local irreducible] csem rsem dsem seqK blockK normK finK DK RK JK BR G3 resK Spec Tok Fr CV
theorem cmpP_spec (L : Linked code) (x y : List UInt8) (hx : x.length ≤ 1048576) (hy : y.length ≤ 1048576) (H : Heap) (K) (hk : ∀ X, Fr [] H X → K (I (cfP x y)) X) : Spec L.P L.ν 363 [S x, S y] H K := by
 unfold cfP at hk
 refine go_spec L code363 rfl ?_
 repeat (refine gk dkU ?_)
 (apply r_call; (focus rfl))
 refine less_spec L x y hx hy H _ fun X1 f1 => ?_
 repeat (refine gk dkU ?_)
 cases c1 : lessP x y
 case true =>
   rw [c1] at hk
   repeat (refine gk dkU ?_)
   exact resK_some (hk X1 f1)
 rw [c1] at hk
 simp only [Bool.false_eq_true, if_false] at hk
 repeat (refine gk dkU ?_)
 (apply r_call; (focus rfl))
 refine less_spec L y x hy hx X1 _ fun X2 f2 => ?_
 repeat (refine gk dkU ?_)
 cases c2 : lessP y x
 case true =>
   rw [c2] at hk
   repeat (refine gk dkU ?_)
   exact resK_some (hk X2 (f1.trans f2))
 rw [c2] at hk
 simp only [Bool.false_eq_true, if_false] at hk
 repeat (refine gk dkU ?_)
 exact resK_some (hk X2 (f1.trans f2))
theorem Spec_and {L : Linked code} {g : Nat} {args : List HV} {H : Heap} {Q Q' : HV → Heap → Prop} (hq : ∀ r X, Q r X → Q' r X) (h : Spec L.P L.ν g args H Q) : Spec L.P L.ν g args H Q' := Spec_mono hq h
theorem dpaths_spec (L : Linked code) (C : Cl L) (b : Nat) (h : Hd) (d : Dk) (n m : Nat) (hw : d.WF n m) (hn : n < 1048576) (H : Heap) (hD : KD H b h d) (K) (hk : ∀ X, Fr [] H X → K (.sl .no 1 ((d.now.map Nm.path).map S)) X) : Spec L.P L.ν 331 [ptr b] H K := by
 have ob := hD.ob
 have hlen : d.now.length ≤ n := hw.now_len
 have hok : ∀ x ∈ d.now.map Nm.path, x.length ≤ 1048576 := fun x hx => by
   obtain ⟨y, hy, rfl⟩ := List.mem_map.mp hx
   have := chkP_len (hw.now_ok y hy).2.2
   omega
 have hsr : (d.now.map Nm.path).Pairwise (fun x y => lessP x y = true) := List.pairwise_map.mpr hw.now_sn
 refine Spec.give ?_
 refine go_spec L code331 rfl ?_
 repeat (refine gk dkU ?_)
 (apply r_call; (focus rfl))
 refine Spec_and (Q := fun r X => ∃ c, H c = none ∧ r = .fn 369 [ptr c] ∧ X c = some (.obj [.v (.map (some h.mn))]) ∧ Fr [] H X) ?_ ?_
 rotate_left
 · refine go_spec L code361 rfl ?_
   repeat (refine gk dkU ?_)
   refine bxk dkU ?_
   intro c X hc xc fc _
   repeat (refine gk dkU ?_)
   exact resK_some ⟨c, hc, rfl, xc, fc⟩
 rintro r X1 ⟨c, hc, rfl, xc, f1⟩
 have hD1 := hD.fr0 f1
 repeat (refine gk dkU ?_)
 (apply r_call; (focus rfl))
 refine C.cl c h.mn d.now X1 _ xc hD1.no (by omega) (fun x hx => hok _ (List.mem_map_of_mem hx)) fun v ss X2 hp hT f2 => ?_
 have hf2 := f1.trans f2
 repeat (refine gk dkU ?_)
 rcases hT with ⟨rfl, rfl⟩ | ⟨a, cc, zs, rfl, ha, hc1, hc2, hc3⟩
 · have hz : d.now.map Nm.path = [] := List.nil_perm.mp hp
   repeat (refine gk dkU ?_)
   (apply r_call; (focus rfl))
   refine sortS0_spec L C.s1 X2 _ ?_
   repeat (refine gk dkU ?_)
   refine resK_some (.inr (.inl ⟨_, Weak.nil' 1, ?_⟩))
   have := hk X2 hf2
   rw [hz] at this; exact this
 · have hl := hp.length_eq
   rw [List.length_map] at hl
   repeat (refine gk dkU ?_)
   (apply r_call; (focus rfl))
   refine sortS_spec L C.Q C.pt (fun x => x.length ≤ 1048576) C.s1 lessP (fun x _ => lessP_irr x) (fun x y z _ _ _ => lessP_trans) (fun x y z _ _ _ => lessP_nt x y z) cfP cfP_lt (fun x y hx hy => cmpP_spec C.Q x y hx hy noR _ fun X _ => rfl) ss (fun x hx => hok x (hp.mem_iff.mp hx)) a ss.length cc zs X2 ha rfl (by omega) _ fun l' X3 hp' hs' h3 f3 => ?_
   have he : l' = d.now.map Nm.path := sorted_eq (hp'.trans hp) hs' hsr
   subst he
   repeat (refine gk dkU ?_)
   refine resK_some (.inr (.inr ⟨a, _, _, h3, FW.slice (sz := 1) (es := (d.now.map Nm.path).map S) ?_ ?_ ?_ hc1 hc2 ?_ ?_, ?_⟩))
   · have e1 : ((d.now.map Nm.path).map S).flatMap HV.cells = (d.now.map Nm.path).map S := one_S _
     rw [e1, List.take_append_of_le_length (by simp [hl]), List.take_of_length_le (by simp [hl])]
   · simp [hl]
   · simp [hl]
   · rw [List.all_eq_true]; intro x hx; obtain ⟨y, _, rfl⟩ := List.mem_map.mp hx; rfl
   · intro x hx; obtain ⟨y, _, rfl⟩ := List.mem_map.mp hx; rfl
   · refine hk _ ?_
     have ha2 : X1 a = none := hc3
     have f13 : Fr [] X1 (X3.upd a none) := Fr.give (f2.own ha2 f3) ha2
     exact f1.trans f13
end Sm
namespace Sm
open Go
def gSl (tk : Tk) (sz : Nat) : List HV → HV
 | [] => .v (.slice none 0 0)
 | x :: l => .sl tk sz (x :: l)
theorem gSl_weak (tk : Tk) (sz : Nat) (es : List HV) : Weak (gSl tk sz es) (.sl .no sz es) := by
 cases es with
 | nil => exact Weak.nil' sz
 | cons x l => exact Weak.drop _ _ _
theorem r_pushG {S' : SpecT} {sl : List (Nat × EV)} {bx : List (Nat × List HV)} {H : Heap} {K : Env → Heap → Prop} {os : List SOper} {d sz bytes : Nat} {x y : Opd} {tk tk2 : Tk} {es : List HV} {e : HV} (ht : Tok H tk es.length sz) (hn : es = [] → tk = .full) (hx : (M sl bx).hv x = some (gSl tk sz es)) (hy : (M sl bx).hv y = some (.sl tk2 sz [e])) (hl : (es.length + 1) * bytes ≤ 140737488355328)
   (hk : ∀ tk' X, Apd H X tk tk' → Tok X tk' (es ++ [e]).length sz → rsem S' os (M ((d, .h (gSl tk' sz (es ++ [e]))) :: sl) bx) X K) : rsem S' (⟨some d, .app sz bytes x y, none⟩ :: os) (M sl bx) H K := by
 cases es with
 | nil =>
   have e1 := hn rfl
   subst e1
   exact r_app0 hx hy (by simpa using hl) (fun h0 => by cases h0) fun tk' X _ h1 h2 => hk tk' X h2 h1
 | cons a l =>
   refine r_app hx hy (by simpa using ht) (by simpa using hl) fun tk' X h1 h2 => ?_
   exact hk tk' X h2 (by simpa using h1)
theorem CB.fr {H X : Heap} {bs : List Nat} {v : HV} {l : List UInt8} (h : CB H v l) (hf : Fr bs H X) (hb : ∀ a ∈ fvb v, a ∉ bs) : CB X v l := by
 rcases h with h | h | ⟨a, c, zs, rfl, h, h2⟩
 · exact .inl h
 · exact .inr (.inl h)
 · exact .inr (.inr ⟨a, c, zs, rfl, hf.get (hb a (by simp [fvb])) h, h2⟩)
theorem CB.held {H : Heap} {v : HV} {l : List UInt8} (h : CB H v l) : ∀ a ∈ fvb v, ∃ cs, H a = some (.obj cs) := by
 rcases h with ⟨rfl, _⟩ | ⟨rfl, _⟩ | ⟨a, c, zs, rfl, h, _⟩
 · simp [fvb]
 · simp [fvb]
 · intro x hx; simp only [fvb, List.mem_singleton] at hx; subst hx; exact ⟨_, h⟩
def encO (x : Eo) : HV := .ag (cO x)
def EB (H X : Heap) (l : List Eo) : Prop := ∀ x ∈ l, CB X x.v x.e.data ∧ ∀ a ∈ fvb x.v, H a = none
theorem EB.fr {H X Y : Heap} {bs : List Nat} {l : List Eo} (h : EB H X l) (hf : Fr bs X Y) (hb : ∀ a ∈ bs, ∀ cs, X a ≠ some (.obj cs)) : EB H Y l := fun x hx => by
 obtain ⟨h1, h2⟩ := h x hx
 refine ⟨h1.fr hf fun a ha hm => ?_, h2⟩
 obtain ⟨cs, hc⟩ := h1.held a ha
 exact hb a hm cs hc
def ED (l : List Eo) : Prop := l.Pairwise fun x y => ∀ a ∈ fvb x.v, a ∉ fvb y.v
theorem ED.push {H X : Heap} {l : List Eo} {y : Eo} (h : ED l) (he : EB H X l) (hy : ∀ a ∈ fvb y.v, X a = none) : ED (l ++ [y]) := by
 unfold ED
 rw [List.pairwise_append]
 refine ⟨h, List.pairwise_singleton _ _, fun x hx z hz a ha hm => ?_⟩
 rw [List.mem_singleton] at hz; subst hz
 obtain ⟨cs, hc⟩ := (he x hx).1.held a ha
 rw [hy a hm] at hc; cases hc
def entN (f : List Fl) (n : Nm) : Ent := ⟨n.path, n.dir, if n.dir then [] else (f.getD n.id default).b⟩
theorem list_eq (d : Dk) : d.list = if d.down then [] else d.now.map (entN d.f) := rfl
attribute [local irreducible] csem rsem dsem seqK blockK normK finK DK RK JK BR G3 resK Spec Tok Fr CV
theorem dlist_spec (L : Linked code) (C : Cl L) (b : Nat) (h : Hd) (d : Dk) (n m : Nat) (hw : d.WF n m) (hn : n < 1048576) (hm : m ≤ 140737488355328) (H : Heap) (hD : KD H b h d) (K) (hk : ∀ eos X, eos.map Eo.e = d.list → EB H X eos → ED eos → Fr [] H X → K (.sl .no 3 (eos.map encO)) X) : Spec L.P L.ν 312 [ptr b] H K := by
 rw [list_eq] at hk
 refine go_spec L code312 rfl ?_
 repeat (refine gk dkU ?_)
 (apply r_call; (focus rfl))
 refine asked0_spec L b h d H hD _ fun X1 f1 => ?_
 have hD1 := hD.fr0 f1
 cases c1 : d.down
 case true =>
   rw [if_pos c1] at hk
   repeat (refine gk dkU ?_)
   exact resK_weak (Weak.nil' 3) (hk [] X1 rfl (by simp [EB]) List.Pairwise.nil f1)
 rw [if_neg (by simp [c1])] at hk
 simp only [Bool.false_eq_true, if_false]
 repeat (refine gk dkU ?_)
 (apply r_call; (focus rfl))
 refine dpaths_spec L C b h d n m hw hn X1 hD1 _ fun X2 f2 => ?_
 have f12 := f1.trans f2
 have hlen := hw.now_len
 repeat (refine gk dkU ?_)
 refine c_loop (Spec_SMono L) (fun (q : Nat × Tk × List Eo) => [(0, .h (ptr b)), (3, .h (gSl q.2.1 3 (q.2.2.map encO))), (13, .h (.sl .no 1 ((d.now.map Nm.path).map S))), (14, .h (I d.now.length)), (15, .h (I q.1))]) (fun _ => [])
   (fun q X => q.1 ≤ d.now.length ∧ Fr [] H X ∧ Fresh H q.2.1 ∧ EB H X q.2.2 ∧ ED q.2.2 ∧ q.2.2.map Eo.e = (d.now.map (entN d.f)).take q.1 ∧ Tok X q.2.1 (q.2.2.map encO).length 3 ∧ (q.2.2.map encO = [] → q.2.1 = .full)) (fun q => d.now.length - q.1) (0, .full, []) ?_ ⟨by simp, f12, by simp [Fresh, tb], by simp [EB], List.Pairwise.nil, by simp, Tok.ful _ _ _, fun _ => rfl⟩ ?_
 · (refine leM ?_ ?_ ?_ <;> (repeat refine leS dkU ?_) <;> exact leE)
 rintro ⟨i, tk, eos⟩ X ⟨hi, hf, hfr, hE, hED, hM, ht, hnil⟩
 dsimp only at hi hf hfr hE hED hM ht hnil ⊢
 have hDX := hD.fr0 hf
 have obX := hDX.ob
 repeat (refine gk dkU ?_)
 (refine ct dkU ?_ ?_ <;> intro hc)
 · have hi' : i < d.now.length := by simpa using hc
   have hgi : ((d.now.map Nm.path).map S)[i]? = some (S d.now[i].path) := by simp [hi']
   have hmem := List.getElem_mem hi'
   have hg := getN_of hw.now_sn.nd hmem
   have hok := hw.now_ok _ hmem
   have hnext : (d.now.map (entN d.f)).take (i + 1) = eos.map Eo.e ++ [entN d.f d.now[i]] := by
     rw [List.take_succ_eq_append_getElem (by simpa using hi'), ← hM]; simp
   have hel : (eos.map encO).length = i := by
     have := congrArg List.length hM
     simp only [List.length_map, List.length_take] at this ⊢; omega
   generalize d.now[i] = x at hgi hmem hg hok hnext
   repeat (refine gk dkU ?_)
   apply r_lkpN1 hDX.no hw.now_sn; (focus rfl)
   rw [hg]
   repeat (refine gk dkU ?_)
   (apply r_call; (focus rfl))
   refine dfile_spec L b h d x.path hw.now_sn (fun x hx => (hw.now_ok x hx).2.1) X hDX _ ?_
   have hfd : fileD d.now x.path = if x.dir then 9 else 0 := by unfold fileD; rw [hg]
   have hidd : idD d.now x.path = x.id := by unfold idD; rw [hg]
   rw [hfd, hidd]
   cases c2 : x.dir
   case true =>
     have hent : entN d.f x = ⟨x.path, true, []⟩ := by simp [entN, c2]
     simp only [dirO, c2]
     repeat (refine gk dkU ?_)
     refine r_pushG (es := eos.map encO) (e := encO ⟨⟨x.path, true, []⟩, .v (.slice none 0 0)⟩) ht hnil rfl rfl (by rw [hel]; omega) fun tk' X' ha ht' => ?_
     have hE' : EB H X' (eos ++ [⟨⟨x.path, true, []⟩, .v (.slice none 0 0)⟩]) := by
       intro y hy
       rcases List.mem_append.mp hy with hy | hy
       · exact hE.fr ha.fr (fun a ham cs hcs => absurd rfl (ht.ne' hcs a ham)) y hy
       · rw [List.mem_singleton] at hy; subst hy; exact ⟨.inl ⟨rfl, rfl⟩, by simp [fvb]⟩
     repeat (refine gk dkU ?_)
     refine k_n (i + 1, tk', eos ++ [⟨⟨x.path, true, []⟩, .v (.slice none 0 0)⟩]) (by simp only; omega) ⟨by simp only; omega, hf.apd hfr ha, hfr.apd hf ha, hE', hED.push hE (by simp [fvb]), by simp only [hnext, hent, List.map_append]; rfl, by simpa using ht', by simp⟩ ?_
     (refine leM ?_ ?_ ?_ <;> (repeat refine leS trivial ?_) <;> exact leE)
   have hent : entN d.f x = ⟨x.path, false, (d.f.getD x.id default).b⟩ := by simp [entN, c2]
   have hid := hok.2.1 c2
   rw [getD_at hid] at hent
   obtain ⟨fb, c, zs, hfv, k1, k2⟩ := hDX.row hid
   rw [hfv] at obX
   simp only [dirO, c2, Bool.false_eq_true, if_false, if_true]
   rw [fpV_of hfv]
   have hsz := hw.sz _ (List.getElem_mem hid)
   repeat (refine gk dkU ?_)
   apply r_load; (focus rfl); (focus exact k1); (focus exact load_fl0 hid (by simp) zs)
   repeat (refine gk dkU ?_)
   (apply r_call; (focus rfl))
   refine cloneC_spec L .no _ (by omega) X _ fun v X' hcb fX hnv => ?_
   have hone := hcb.one
   have hE1 := hE.fr fX (by simp)
   have ht1 := ht.fr' fX (by simp)
   repeat (refine gk dkU ?_)
   apply r_storeb; (focus rfl); (focus exact hone.2.2.1); (focus exact hone.2.1); (focus rfl); (focus rfl); (focus rfl); (focus (rw [hone.2.2.2]))
   have e0 : setL [S x.path, B false, .v (.slice none 0 0)] (0 + 2) [v] = [S x.path, B false, v] := rfl
   rw [e0]
   repeat (refine gk dkU ?_)
   apply r_bslice; (focus rfl); (focus (show ((HV.ag (cO ⟨⟨x.path, false, d.f[x.id].b⟩, v⟩)).el && true) = true; rw [cO_el hone.1]; rfl)); (focus rfl)
   refine r_pushG (es := eos.map encO) (e := encO ⟨⟨x.path, false, d.f[x.id].b⟩, v⟩) ht1 hnil rfl rfl (by rw [hel]; omega) fun tk' X2' ha ht' => ?_
   have hfX := hf.trans fX
   have hE' : EB H X2' (eos ++ [⟨⟨x.path, false, d.f[x.id].b⟩, v⟩]) := by
     intro y hy
     rcases List.mem_append.mp hy with hy | hy
     · exact hE1.fr ha.fr (fun a ham cs hcs => absurd rfl (ht1.ne' hcs a ham)) y hy
     · rw [List.mem_singleton] at hy; subst hy
       exact ⟨hcb.fr ha.fr fun a ham hm => by obtain ⟨cs, hcs⟩ := hcb.held a ham; exact absurd rfl (ht1.ne' hcs a hm), fun a ha => hf.of_none (hnv a ha)⟩
   repeat (refine gk dkU ?_)
   refine k_n (i + 1, tk', eos ++ [⟨⟨x.path, false, d.f[x.id].b⟩, v⟩]) (by simp only; omega) ⟨by simp only; omega, hfX.apd hfr ha, hfr.apd hfX ha, hE', hED.push hE hnv, by simp only [hnext, hent, List.map_append]; rfl, by simpa using ht', by simp⟩ ?_
   (refine leM ?_ ?_ ?_ <;> (repeat refine leS trivial ?_) <;> exact leE)
 · have hi' : i = d.now.length := by have : ¬ i < d.now.length := by simpa using hc
                                     omega
   subst hi'
   rw [List.take_of_length_le (by simp)] at hM
   repeat (refine gk dkU ?_)
   exact resK_weak (gSl_weak _ _ _) (hk eos X hM hE hED hf)
end Sm
namespace Sm
open Go
theorem r_slcH {S' : SpecT} {sl : List (Nat × EV)} {bx : List (Nat × List HV)} {H : Heap} {K : Env → Heap → Prop} {os : List SOper} {d : Nat} {sz : Nat} {x hi : Opd} {es : List HV} {n : Int} {k : Nat} (hx : (M sl bx).hv x = some (.sl .no sz es)) (h1 : (M sl bx).hv hi = some (I n)) (e1 : n = k) (hk : k ≤ es.length)
   (h : rsem S' os (M ((d, .h (.sl .no sz (es.take k))) :: sl) bx) H K) : rsem S' (⟨some d, .slc sz x none (some hi) none, none⟩ :: os) (M sl bx) H K := by
 subst e1
 refine r_calm rfl ?_ h
 simp only [SOp.ev, hx, bnd, h1]
 rw [if_pos ⟨trivial, by omega, by omega, by omega⟩]
 simp
theorem r_slcD {S' : SpecT} {sl : List (Nat × EV)} {bx : List (Nat × List HV)} {H : Heap} {K : Env → Heap → Prop} {os : List SOper} {d : Nat} {sz : Nat} {x lo : Opd} {es : List HV} {n : Int} {k : Nat} (hx : (M sl bx).hv x = some (.sl .no sz es)) (h1 : (M sl bx).hv lo = some (I n)) (e1 : n = k) (hk : k ≤ es.length)
   (h : rsem S' os (M ((d, .h (.sl .no sz (es.drop k))) :: sl) bx) H K) : rsem S' (⟨some d, .slc sz x (some lo) none none, none⟩ :: os) (M sl bx) H K := by
 subst e1
 refine r_calm rfl ?_ h
 simp only [SOp.ev, hx, bnd, h1]
 rw [if_pos ⟨trivial, by omega, by omega, by omega⟩]
 simp only [Int.toNat_natCast]
 congr 3
 · split <;> rfl
 · exact List.take_of_length_le (by simp)
theorem chain_get : ∀ {cs : List Chg} {l : List Nm} {i : Nat} (h : i < cs.length), chain l cs → okC (appAll l (cs.take i)) cs[i]
 | c :: cs, l, 0, _, h => h.1
 | c :: cs, l, i + 1, hi, h => chain_get (cs := cs) (l := appC l c) (by simpa using hi) h.2
theorem appAll_succ {cs : List Chg} {l : List Nm} {i : Nat} (h : i < cs.length) : appAll l (cs.take (i + 1)) = appC (appAll l (cs.take i)) cs[i] := by
 rw [List.take_succ_eq_append_getElem h, appAll_snoc]
def Dk.crash1 (d : Dk) (count : Int) : Dk := { d with sure := appAll d.sure (d.loose.take (max 0 (min count d.loose.length)).toNat), loose := [] }
theorem crash1_wf {d : Dk} {n m : Nat} (h : d.WF n m) (count : Int) : (d.crash1 count).WF n m := by
 unfold Dk.crash1
 generalize (max 0 (min count (d.loose.length : Int))).toNat = k
 have hl := appAll_len (d.loose.take k) d.sure
 have hk : (d.loose.take k).length ≤ d.loose.length := by rw [List.length_take]; omega
 have := h.len
 exact ⟨chain_sn h.sn (chain_take k h.ch), trivial, by simp only [List.length_nil]; omega, h.fl, h.op, appAll_ok h.ids fun c hc => (h.idc c (List.mem_of_mem_take hc)).1, by simp, h.sz, h.rm, h.fa, h.wr⟩
attribute [local irreducible] csem rsem dsem seqK blockK normK finK DK RK JK BR G3 resK Spec Tok Fr CV
theorem dcrash_spec (L : Linked code) (C : Cl L) (b : Nat) (h : Hd) (d : Dk) (count : Int) (keep : List UInt8) (n m : Nat) (hw : d.WF n m) (hn : n < 1048576) (hm : m ≤ 140737488355328) (hkl : keep.length ≤ 9223372036854775807) (H : Heap) (hD : KD H b h d)
   (K) (hk : ∀ Y h', KD Y b h' (d.crash count keep) → Own H Y (h.bs b) (h'.bs b) → K (.tu []) Y) : Spec L.P L.ν 297 [ptr b, I count, .sl .no 1 (keep.map U)] H K := by
 have hw1 := crash1_wf hw count
 have ob := hD.ob
 have hlen := hw.len
 have hnd := hD.nd
 simp only [Hd.bs, List.nodup_cons, List.mem_cons, not_or] at hnd
 obtain ⟨⟨q1, q2, q3⟩, ⟨q4, q5⟩, q6, q7⟩ := hnd
 unfold Dk.crash at hk
 unfold Dk.crash1 at hw1
 have hkk : (max 0 (min count (d.loose.length : Int))).toNat ≤ d.loose.length := by omega
 have hki : max 0 (min count (d.loose.length : Int)) = ((max 0 (min count (d.loose.length : Int))).toNat : Int) := by omega
 generalize hkd : (max 0 (min count (d.loose.length : Int))).toNat = k at hk hw1 hkk hki
 dsimp only at hk
 refine go_spec L code297 rfl ?_
 repeat (refine gk dkU ?_)
 (apply r_call; (focus rfl))
 refine mclone_spec L h.ms d.sure H hD.su _ fun m1 X1 hm1 hM1 g1 => ?_
 have nm1 := hD.new hm1
 simp only [Hd.bs, List.mem_cons, not_or] at nm1
 have ob1 := g1.get (by simp) ob
 repeat (refine gk dkU ?_)
 refine sxk dkU ?_
 intro X2 x2 g2
 have hM2 := hM1.fr g2 (by simpa using nm1.1)
 repeat (refine gk dkU ?_)
 apply r_slcH (k := k); (focus rfl); (focus rfl); (focus exact hki); (focus (simp; exact hkk))
 rw [← List.map_take]
 repeat (refine gk dkU ?_)
 have hlk : (d.loose.take k).length ≤ 1048576 := by rw [List.length_take]; omega
 refine c_loop (Spec_SMono L) (fun (i : Nat) => [(0, .h (ptr b)), (2, .h (.sl .no 1 (keep.map U))), (35, .h (.sl .no 2 ((d.loose.take k).map chgV))), (36, .h (I (d.loose.take k).length)), (37, .h (I i))]) (fun _ => []) (fun i X => i ≤ (d.loose.take k).length ∧ Fr [m1] X2 X ∧ PM X m1 (appAll d.sure ((d.loose.take k).take i))) (fun i => (d.loose.take k).length - i) 0 ?_ ⟨by omega, Fr.refl _ _, by simpa [appAll] using hM2⟩ ?_
 · (refine leM ?_ ?_ ?_ <;> (repeat refine leS trivial ?_) <;> exact leE)
 rintro i X ⟨hi, hf, hM⟩
 have x2b := hf.get (a := b) (by simpa using fun e => nm1.1 e.symm) x2
 repeat (refine gk dkU ?_)
 (refine ct dkU ?_ ?_ <;> intro hc)
 · have hi' : i < (d.loose.take k).length := by simpa using hc
   have hch := chain_take k hw.ch
   have hok := chain_get hi' hch
   have hsn := chain_sn hw.sn (chain_take i hch)
   have hsucc := appAll_succ (l := d.sure) hi'
   obtain ⟨c, hcd⟩ : ∃ c, c = (d.loose.take k)[i] := ⟨_, rfl⟩
   rw [← hcd] at hok hsucc
   repeat (refine gk dkU ?_)
   rw [← hcd]
   (apply r_call; (focus rfl))
   refine apply_spec' L m1 _ c hsn hok X hM _ fun X3 h3 f3 => ?_
   repeat (refine gk dkU ?_)
   refine k_n (i + 1) (by omega) ⟨by omega, hf.trans f3, by rw [hsucc]; exact h3⟩ ?_
   (refine leM ?_ ?_ ?_ <;> (repeat refine leS trivial ?_) <;> exact leE)
 have hi' : i = (d.loose.take k).length := by have : ¬ i < (d.loose.take k).length := by simpa using hc
                                              omega
 subst hi'
 rw [List.take_length] at hM
 repeat (refine gk dkU ?_)
 (apply r_call; (focus rfl))
 refine mclone_spec L m1 _ X hM _ fun m2 X3 hm2 hM3 g3 => ?_
 have x3b := g3.get (by simp) x2b
 repeat (refine gk dkU ?_)
 refine sxk dkU ?_
 intro X4 x4 g4
 repeat (refine gk dkU ?_)
 refine sxk dkU ?_
 intro X5 x5 g5
 repeat (refine gk dkU ?_)
 (apply r_call; (focus rfl))
 have hs5 : (X5.upd b (some (.obj [I d.room, .v (.map (some m2)), .v (.map (some m1)), .sl .no 2 [], h.fv, B d.down, I d.ops, I d.fails, B d.done, I d.wrong]))).sub X5 :=
   sub_upd x5 ⟨Weak.refl _, Weak.refl _, Weak.refl _, Weak.nil' 2, Weak.refl _, Weak.refl _, Weak.refl _, Weak.refl _, Weak.refl _, Weak.refl _, trivial⟩ (by
     have := fs_one hD.fs
     simp only [List.all_cons, this]; rfl)
 refine Spec.sub hs5 ?_
 generalize hX6 : X5.upd b (some (.obj [I d.room, .v (.map (some m2)), .v (.map (some m1)), .sl .no 2 [], h.fv, B d.down, I d.ops, I d.fails, B d.done, I d.wrong])) = X6
 have g6 : Fr [b] X3 X6 := by rw [← hX6]; exact (g4.trans g5).trans (Fr.set (by simp))
 have b1 : b ≠ m1 := fun e => nm1.1 e.symm
 have g16 : Fr [b, m1] X1 X6 := ((g2.mono (by simp)).trans (hf.mono (by simp))).trans ((g3.mono (by simp)).trans (g6.mono (by simp)))
 have hm2b : m2 ≠ b ∧ m2 ≠ m1 ∧ m2 ∉ fvb h.fv := by
   refine ⟨fun e => ?_, fun e => ?_, fun e => ?_⟩
   · rw [e, x2b] at hm2; cases hm2
   · obtain ⟨r, hr⟩ := hM.held; rw [← e, hm2] at hr; cases hr
   · obtain ⟨r, hr⟩ := (hD.fs.fr g1 (by simp)).held m2 e
     have := hf.get (a := m2) (fun hm => by rw [List.mem_singleton] at hm; exact nm1.2.2.2 (hm ▸ e)) (g2.get (a := m2) (fun hm => by rw [List.mem_singleton] at hm; exact q3 (hm ▸ e)) hr)
     rw [this] at hm2; cases hm2
 have hD6 : KD X6 b ⟨m2, m1, h.fv⟩ { d with sure := appAll d.sure (d.loose.take k), loose := [] } := by
   refine ⟨by rw [← hX6, Heap.upd_same]; rfl, hM3.fr g6 (by simpa using hm2b.1), (hM.fr g3 (by simp)).fr g6 (by simpa using nm1.1), (hD.fs.fr g1 (by simp)).fr g16 (fun a ha hm => ?_), ?_⟩
   · simp only [List.mem_cons, List.not_mem_nil, or_false] at hm
     rcases hm with rfl | rfl
     · exact q3 ha
     · exact nm1.2.2.2 ha
   · simp only [Hd.bs, List.nodup_cons, List.mem_cons, not_or]
     exact ⟨⟨fun e => hm2b.1 e.symm, b1, q3⟩, ⟨hm2b.2.1, hm2b.2.2⟩, nm1.2.2.2, q7⟩
 have o6 : Own H X6 (h.bs b) ((⟨m2, m1, h.fv⟩ : Hd).bs b) := by
   refine ⟨Fr.make2 fun a r ha hr => ?_, fun a ha => ?_⟩
   · refine g16.get (fun hm => ?_) (g1.get (by simp) hr)
     simp only [List.mem_cons, List.not_mem_nil, or_false] at hm
     rcases hm with rfl | rfl
     · exact ha (by simp [Hd.bs])
     · rw [hm1] at hr; cases hr
   · simp only [Hd.bs, List.mem_cons] at ha ⊢
     rcases ha with rfl | rfl | rfl | ha
     · simp
     · refine .inr ?_
       cases hx : H a with
       | none => rfl
       | some r =>
         by_cases hab : a = b
         · exact absurd hab hm2b.1
         · have := hf.get (a := a) (by simpa using hm2b.2.1) (g2.get (a := a) (by simpa using hab) (g1.get (by simp) hx))
           rw [this] at hm2; cases hm2
     · exact .inr hm1
     · simp [ha]
 clear hX6 hs5 x5 x4 g4 g5 x3b hM3 hM hf x2b hM2 g2 hM1 ob1 g16 g6 g3
 refine dpaths_spec L C b _ _ n m hw1 hn X6 hD6 _ fun X7 f7 => ?_
 have hD7 := hD6.fr0 f7
 have o7 := o6.trans (Own.of _ f7)
 have hnow : ({ d with sure := appAll d.sure (d.loose.take k), loose := [] } : Dk).now = appAll d.sure (d.loose.take k) := rfl
 rw [hnow]
 have hsn1 : SN (appAll d.sure (d.loose.take k)) := hw1.sn
 have hll : (appAll d.sure (d.loose.take k)).length ≤ 1048576 := by have := hw1.now_len; rw [hnow] at this; omega
 have hidl : ∀ x ∈ appAll d.sure (d.loose.take k), x.dir = false → x.id < d.f.length := fun x hx => (hw1.ids x hx).2.1
 generalize appAll d.sure (d.loose.take k) = l at *
 repeat (refine gk dkU ?_)
 refine c_loop (Spec_SMono L) (fun (q : Nat × List Fl × List UInt8) => [(0, .h (ptr b)), (2, .h (.sl .no 1 (q.2.2.map U))), (60, .h (.sl .no 1 ((l.map Nm.path).map S))), (61, .h (I l.length)), (62, .h (I q.1))]) (fun _ => [])
   (fun q X => q.1 ≤ l.length ∧ KD X b ⟨m2, m1, h.fv⟩ { d with sure := l, loose := [], f := q.2.1 } ∧ Own H X (h.bs b) ((⟨m2, m1, h.fv⟩ : Hd).bs b) ∧ crashF (l.drop q.1) q.2.1 q.2.2 = crashF l d.f keep ∧ q.2.1.length = d.f.length ∧ (∀ x ∈ q.2.1, x.b.length ≤ m ∧ x.safe ≤ x.b.length) ∧ q.2.2.length ≤ 9223372036854775807) (fun q => l.length - q.1) (0, d.f, keep) ?_ ⟨by simp, hD7, o7, rfl, rfl, hw.sz, hkl⟩ ?_
 · (refine leM ?_ ?_ ?_ <;> (repeat refine leS dkU ?_) <;> exact leE)
 clear hD7 o7 f7
 rintro ⟨j, f, kp⟩ X8 ⟨hj, hD8, o8, hcr, hfl, hsz, hkp⟩
 dsimp only at hj hD8 o8 hcr hfl hsz hkp ⊢
 have ob8 := hD8.ob
 repeat (refine gk dkU ?_)
 (refine ct dkU ?_ ?_ <;> intro hcj)
 rotate_left
 · have hj' : j = l.length := by have : ¬ j < l.length := by simpa using hcj
                                 omega
   subst hj'
   rw [List.drop_length, crashF] at hcr
   rw [← hcr] at hk
   repeat (refine gk dkU ?_)
   refine sxk dkU ?_
   intro Y1 y1 e1
   repeat (refine gk dkU ?_)
   refine sxk dkU ?_
   intro Y2 y2 e2
   repeat (refine gk dkU ?_)
   refine sxk dkU ?_
   intro Y3 y3 e3
   repeat (refine gk dkU ?_)
   refine sxk dkU ?_
   intro Y4 y4 e4
   have e14 := ((e1.trans e2).trans e3).trans e4
   repeat (refine gk dkU ?_)
   exact resK_some (hk Y4 ⟨m2, m1, h.fv⟩ (hD8.cell e14 y4 rfl rfl rfl) (o8.trans (Own.cell e14)))
 have hj' : j < l.length := by simpa using hcj
 have hgi : ((l.map Nm.path).map S)[j]? = some (S l[j].path) := by simp [hj']
 rw [List.drop_eq_getElem_cons hj', crashF] at hcr
 have hmem := List.getElem_mem hj'
 have hg := getN_of hsn1.nd hmem
 have hid := hidl _ hmem
 generalize l[j] = x at hgi hcr hmem hg hid
 repeat (refine gk dkU ?_)
 (apply r_call; (focus rfl))
 refine dfile_spec L b _ { d with sure := l, loose := [], f := f } x.path hsn1 (fun y hy hyd => by show y.id < f.length; rw [hfl]; exact hidl y hy hyd) X8 hD8 _ ?_
 have hfd : fileD ({ d with sure := l, loose := [], f := f } : Dk).now x.path = if x.dir then 9 else 0 := by show fileD l x.path = _; unfold fileD; rw [hg]
 have hidd : idD ({ d with sure := l, loose := [], f := f } : Dk).now x.path = x.id := by show idD l x.path = _; unfold idD; rw [hg]
 rw [hfd, hidd]
 cases c2 : x.dir
 case true =>
   rw [if_pos c2] at hcr
   repeat (refine gk dkU ?_)
   refine k_n (j + 1, f, kp) (by simp only; omega) ⟨by simp only; omega, hD8, o8, hcr, hfl, hsz, hkp⟩ ?_
   (refine leM ?_ ?_ ?_ <;> (repeat refine leS trivial ?_) <;> exact leE)
 rw [if_neg (by simp [c2])] at hcr
 have hi := hid c2
 rw [← hfl] at hi
 obtain ⟨fb, c, zs, hfv, k1, k2⟩ := hD8.row hi
 dsimp only at hfv k1 k2
 rw [getD_at hi] at hcr
 have hszi := hsz _ (List.getElem_mem hi)
 simp only [Bool.false_eq_true, if_false, if_true]
 rw [fpV_of hfv]
 have hfbb : b ≠ fb := fun e => q3 (by rw [hfv]; simp [fvb, e])
 dsimp only at hcr
 have hD8s := hD8
 repeat (refine gk dkU ?_)
 apply r_load; (focus rfl); (focus exact k1); (focus exact load_fl0 hi (by simp) zs)
 repeat (refine gk dkU ?_)
 apply r_load; (focus rfl); (focus exact k1); (focus exact load_fl1 hi (by simp) zs)
 repeat (refine gk dkU ?_)
 have hcase : (decide ((0 : Int) < (f[x.id].b.length : Int) - (f[x.id].safe : Int)) = false ∧ ∃ s kpN, s = f[x.id].safe ∧ kpN = kp) ∨ (decide ((0 : Int) < (f[x.id].b.length : Int) - (f[x.id].safe : Int)) = true ∧ kp = [] ∧ ∃ s kpN, s = f[x.id].safe ∧ kpN = kp) ∨
     (decide ((0 : Int) < (f[x.id].b.length : Int) - (f[x.id].safe : Int)) = true ∧ ∃ k0 kpN s, kp = k0 :: kpN ∧ s = f[x.id].safe + k0.toNat % (f[x.id].b.length - f[x.id].safe + 1)) := by
   cases hd : decide ((0 : Int) < (f[x.id].b.length : Int) - (f[x.id].safe : Int))
   · exact .inl ⟨rfl, _, _, rfl, rfl⟩
   · cases kp with
     | nil => exact .inr (.inl ⟨rfl, rfl, _, _, rfl, rfl⟩)
     | cons k0 ks => exact .inr (.inr ⟨rfl, k0, ks, _, rfl, rfl⟩)
 rcases hcase with ⟨hd, s, kpN, hsd, hkd⟩ | ⟨hd, hk0, s, kpN, hsd, hkd⟩ | ⟨hd, k0, kpN, s, hkd, hsd⟩
 · rw [if_neg (by simp at hd; omega)] at hcr
   rw [hd]
   repeat (refine gk dkU ?_)
   apply r_load; (focus rfl); (focus exact k1); (focus exact load_fl0 hi (by simp) zs)
   repeat (refine gk dkU ?_)
   apply r_load; (focus rfl); (focus exact k1); (focus exact load_fl1 hi (by simp) zs)
   repeat (refine gk dkU ?_)
   apply r_load; (focus rfl); (focus exact k1); (focus exact load_fl1 hi (by simp) zs)
   repeat (refine gk dkU ?_)
   apply r_slcT (k := f[x.id].safe); (focus rfl); (focus rfl); (focus rfl); (focus rfl); (focus rfl); (focus (simp; exact hszi.2))
   rw [← List.map_take]
   rw [fsw_of hi] at k1
   repeat (refine gk dkU ?_)
   apply r_storeO; (focus rfl); (focus rfl); (focus rfl); (focus rfl); (focus exact k1); (focus (have := fsw_len (v := .sl .no 1 (f[x.id].b.map U)) (w := I f[x.id].safe) (zs := zs) hi; omega))
   intro Y9 y9 e9
   have y9' : Y9 fb = some (.obj (fsw f x.id (.sl .full 1 ((f[x.id].b.take f[x.id].safe).map U)) (I f[x.id].safe) zs)) := by
     rw [y9]
     have e : setL (fsw f x.id (.sl .no 1 (f[x.id].b.map U)) (I f[x.id].safe) zs) (x.id * 2 + 0) (HV.sl .full 1 ((f[x.id].b.take f[x.id].safe).map U)).cells = (fsw f x.id (.sl .no 1 (f[x.id].b.map U)) (I f[x.id].safe) zs).set (x.id * 2) (.sl .full 1 ((f[x.id].b.take f[x.id].safe).map U)) := rfl
     rw [e, fsw_set0 hi]
   obtain ⟨Z, hvs, hZ, oZ⟩ := vs_file' (s := f[x.id].safe) hD8 hfv k2 hi y9' e9 (Weak.drop _ _ _)
   refine r_nil (n_n (b_n (s_v (hvs _) ?_)))
   repeat (refine gk dkU ?_)
   refine k_n (j + 1, f.set x.id ⟨f[x.id].b.take f[x.id].safe, f[x.id].safe⟩, kp) (by simp only; omega) ⟨by simp only; omega, hZ, o8.trans oZ, hcr, by simpa using hfl, fun y hy => ?_, hkp⟩ ?_
   · rcases List.mem_or_eq_of_mem_set hy with hy | rfl
     · exact hsz y hy
     · simp only [List.length_take]; omega
   (refine leM ?_ ?_ ?_ <;> (repeat refine leS trivial ?_) <;> exact leE)
 · subst hk0
   rw [if_neg (by simp)] at hcr
   rw [hd]
   repeat (refine gk dkU ?_)
   apply r_load; (focus rfl); (focus exact k1); (focus exact load_fl0 hi (by simp) zs)
   repeat (refine gk dkU ?_)
   apply r_load; (focus rfl); (focus exact k1); (focus exact load_fl1 hi (by simp) zs)
   repeat (refine gk dkU ?_)
   apply r_load; (focus rfl); (focus exact k1); (focus exact load_fl1 hi (by simp) zs)
   repeat (refine gk dkU ?_)
   apply r_slcT (k := f[x.id].safe); (focus rfl); (focus rfl); (focus rfl); (focus rfl); (focus rfl); (focus (simp; exact hszi.2))
   rw [← List.map_take]
   rw [fsw_of hi] at k1
   repeat (refine gk dkU ?_)
   apply r_storeO; (focus rfl); (focus rfl); (focus rfl); (focus rfl); (focus exact k1); (focus (have := fsw_len (v := .sl .no 1 (f[x.id].b.map U)) (w := I f[x.id].safe) (zs := zs) hi; omega))
   intro Y9 y9 e9
   have y9' : Y9 fb = some (.obj (fsw f x.id (.sl .full 1 ((f[x.id].b.take f[x.id].safe).map U)) (I f[x.id].safe) zs)) := by
     rw [y9]
     have e : setL (fsw f x.id (.sl .no 1 (f[x.id].b.map U)) (I f[x.id].safe) zs) (x.id * 2 + 0) (HV.sl .full 1 ((f[x.id].b.take f[x.id].safe).map U)).cells = (fsw f x.id (.sl .no 1 (f[x.id].b.map U)) (I f[x.id].safe) zs).set (x.id * 2) (.sl .full 1 ((f[x.id].b.take f[x.id].safe).map U)) := rfl
     rw [e, fsw_set0 hi]
   obtain ⟨Z, hvs, hZ, oZ⟩ := vs_file' (s := f[x.id].safe) hD8 hfv k2 hi y9' e9 (Weak.drop _ _ _)
   refine r_nil (n_n (b_n (s_v (hvs _) ?_)))
   repeat (refine gk dkU ?_)
   refine k_n (j + 1, f.set x.id ⟨f[x.id].b.take f[x.id].safe, f[x.id].safe⟩, []) (by simp only; omega) ⟨by simp only; omega, hZ, o8.trans oZ, hcr, by simpa using hfl, fun y hy => ?_, hkp⟩ ?_
   · rcases List.mem_or_eq_of_mem_set hy with hy | rfl
     · exact hsz y hy
     · simp only [List.length_take]; omega
   (refine leM ?_ ?_ ?_ <;> (repeat refine leS trivial ?_) <;> exact leE)
 · subst hkd
   have hd' : f[x.id].safe < f[x.id].b.length := by simp at hd; omega
   rw [if_pos ⟨hd', by simp⟩] at hcr
   simp only [List.headD_cons, List.tail_cons] at hcr
   rw [← hsd] at hcr
   rw [hd]
   have hk8 := k0.toNat_lt
   have hlt := Nat.mod_lt k0.toNat (show f[x.id].b.length - f[x.id].safe + 1 > 0 by omega)
   have hs : s ≤ f[x.id].b.length := by omega
   repeat (refine gk dkU ?_)
   (refine ct dkU ?_ ?_ <;> intro hq)
   rotate_left
   · simp at hq
   repeat (refine gk dkU ?_)
   apply r_load; (focus rfl); (focus exact k1); (focus exact load_fl1 hi (by simp) zs)
   repeat (refine gk dkU ?_)
   have hb0 := Int.emod_nonneg (k0.toNat : Int) (show (f[x.id].b.length : Int) - (f[x.id].safe : Int) + 1 ≠ 0 by omega)
   have hb1 := Int.emod_lt_of_pos (k0.toNat : Int) (show (f[x.id].b.length : Int) - (f[x.id].safe : Int) + 1 > 0 by omega)
   have hse : (f[x.id].safe : Int) + (k0.toNat : Int) % ((f[x.id].b.length : Int) - (f[x.id].safe : Int) + 1) = (s : Int) := by
     rw [hsd]
     have e : (f[x.id].b.length : Int) - (f[x.id].safe : Int) + 1 = ((f[x.id].b.length - f[x.id].safe + 1 : Nat) : Int) := by omega
     rw [e, ← Int.natCast_emod, ← Int.natCast_add]
   rw [hse, wrap_in (by omega) (by omega)]
   rw [fsw_of hi] at k1
   apply r_storeO; (focus rfl); (focus rfl); (focus rfl); (focus rfl); (focus exact k1); (focus (have := fsw_len (v := .sl .no 1 (f[x.id].b.map U)) (w := I f[x.id].safe) (zs := zs) hi; omega))
   intro Y8 y8 e8
   have y8' : Y8 fb = some (.obj (fsw f x.id (.sl .no 1 (f[x.id].b.map U)) (I s) zs)) := by
     rw [y8]
     have e : setL (fsw f x.id (.sl .no 1 (f[x.id].b.map U)) (I f[x.id].safe) zs) (x.id * 2 + 1) (I (s : Int)).cells = (fsw f x.id (.sl .no 1 (f[x.id].b.map U)) (I f[x.id].safe) zs).set (x.id * 2 + 1) (I (s : Int)) := rfl
     rw [e, fsw_set1 hi]
   repeat (refine gk dkU ?_)
   apply r_slcD (k := 1); (focus rfl); (focus rfl); (focus rfl); (focus simp)
   rw [List.map_cons, List.drop_succ_cons, List.drop_zero]
   repeat (refine gk dkU ?_)
   apply r_load; (focus rfl); (focus exact y8'); (focus exact load_at (fsw_get0 hi))
   repeat (refine gk dkU ?_)
   apply r_load; (focus rfl); (focus exact y8'); (focus exact load_at (fsw_get1 hi))
   repeat (refine gk dkU ?_)
   apply r_load; (focus rfl); (focus exact y8'); (focus exact load_at (fsw_get1 hi))
   repeat (refine gk dkU ?_)
   apply r_slcT (k := s); (focus rfl); (focus rfl); (focus rfl); (focus rfl); (focus rfl); (focus (simp; exact hs))
   rw [← List.map_take]
   repeat (refine gk dkU ?_)
   apply r_storeO; (focus rfl); (focus rfl); (focus rfl); (focus rfl); (focus exact y8'); (focus (have := fsw_len (v := .sl .no 1 (f[x.id].b.map U)) (w := I s) (zs := zs) hi; omega))
   intro Y9 y9 e9
   have y9' : Y9 fb = some (.obj (fsw f x.id (.sl .full 1 ((f[x.id].b.take s).map U)) (I s) zs)) := by
     rw [y9]
     have e : setL (fsw f x.id (.sl .no 1 (f[x.id].b.map U)) (I s) zs) (x.id * 2 + 0) (HV.sl .full 1 ((f[x.id].b.take s).map U)).cells = (fsw f x.id (.sl .no 1 (f[x.id].b.map U)) (I s) zs).set (x.id * 2) (.sl .full 1 ((f[x.id].b.take s).map U)) := rfl
     rw [e, fsw_set0 hi]
   obtain ⟨Z, hvs, hZ, oZ⟩ := vs_file' (s := s) hD8 hfv k2 hi y9' (e8.trans e9) (Weak.drop _ _ _)
   refine r_nil (n_n (b_n (s_v (hvs _) ?_)))
   repeat (refine gk dkU ?_)
   refine k_n (j + 1, f.set x.id ⟨f[x.id].b.take s, s⟩, kpN) (by simp only; omega) ⟨by simp only; omega, hZ, o8.trans oZ, hcr, by simpa using hfl, fun y hy => ?_, by have h9 := hkp; simp only [List.length_cons] at h9 ⊢; omega⟩ ?_
   · rcases List.mem_or_eq_of_mem_set hy with hy | rfl
     · exact hsz y hy
     · simp only [List.length_take]; omega
   (refine leM ?_ ?_ ?_ <;> (repeat refine leS trivial ?_) <;> exact leE)
end Sm
