/-
  D8,D9,D10,D11,D12,D13,D14
-/
import Derived.Test.YtegmmhldpmmkeaaGreatDoorSmDA
set_option linter.unusedVariables false
set_option linter.unusedSimpArgs false
set_option maxRecDepth 10000
set_option maxHeartbeats 1000000
namespace Sm
open Go
def fsw (l : List Fl) (i : Nat) (v w : HV) (zs : List HV) : List HV := flsC (l.take i) ++ (v :: w :: (flsC (l.drop (i + 1)) ++ zs))
section
variable {l : List Fl} {i : Nat} {v w v' : HV} {zs : List HV}
theorem fsw_pre (h : i < l.length) : (flsC (l.take i)).length = i * 2 := by rw [flsC_len, List.length_take]; congr 1; omega
theorem fsw_of (h : i < l.length) : flsC l ++ zs = fsw l i (.sl .no 1 (l[i].b.map U)) (I l[i].safe) zs := by
 rw [flsC_split h, fsw]; simp
theorem fsw_set0 (h : i < l.length) : (fsw l i v w zs).set (i * 2) v' = fsw l i v' w zs := by
 rw [fsw, List.set_append_right _ _ (by rw [fsw_pre h]; exact Nat.le_refl _), fsw_pre h, Nat.sub_self]; rfl
theorem fsw_set1 (h : i < l.length) : (fsw l i v w zs).set (i * 2 + 1) v' = fsw l i v v' zs := by
 rw [fsw, List.set_append_right _ _ (by rw [fsw_pre h]; omega), fsw_pre h, show i * 2 + 1 - i * 2 = 1 by omega]; rfl
theorem fsw_get0 (h : i < l.length) : (fsw l i v w zs)[i * 2]? = some v := by
 rw [fsw, List.getElem?_append_right (by rw [fsw_pre h]; exact Nat.le_refl _), fsw_pre h, Nat.sub_self]; rfl
theorem fsw_get1 (h : i < l.length) : (fsw l i v w zs)[i * 2 + 1]? = some w := by
 rw [fsw, List.getElem?_append_right (by rw [fsw_pre h]; omega), fsw_pre h, show i * 2 + 1 - i * 2 = 1 by omega]; rfl
theorem fsw_len (h : i < l.length) : i * 2 + 2 ≤ (fsw l i v w zs).length := by
 rw [fsw, List.length_append, fsw_pre h]; simp only [List.length_cons]; omega
theorem fsw_fin (h : i < l.length) (f : Fl) : flsC (l.set i f) ++ zs = fsw l i (.sl .no 1 (f.b.map U)) (I f.safe) zs := by
 have h2 : i < (l.set i f).length := by simpa using h
 rw [fsw_of h2, fsw]
 simp [fsw, List.take_set_of_le, List.drop_set_of_lt]
theorem fsw_one (hv : v.one = true) (hw : w.one = true) (hz : zs.all HV.one = true) : (fsw l i v w zs).all HV.one = true := by
 rw [fsw, List.all_append, flsC_one, List.all_cons, List.all_cons, List.all_append, flsC_one, hv, hw, hz]; rfl
end
def BV (H : Heap) (v : HV) (l : List UInt8) : Prop := (∃ tk, v = .sl tk 1 (l.map U)) ∨ (v = .v (.slice none 0 0) ∧ l = []) ∨ ∃ a c zs, v = .v (.slice (some ⟨a, 0, none⟩) l.length c) ∧ H a = some (.obj (l.map U ++ zs))
theorem flat_U (l : List UInt8) : (l.map U).flatMap HV.cells = l.map U := by
 induction l with
 | nil => rfl
 | cons a l ih => rw [List.map_cons, List.flatMap_cons, ih]; rfl
theorem BV.rdm {H : Heap} {v : HV} {l : List UInt8} (h : BV H v l) : Sm.rdm H 1 v = some (l.length, l.map U) := by
 rcases h with ⟨tk, rfl⟩ | ⟨rfl, rfl⟩ | ⟨a, c, zs, rfl, h⟩
 · simp only [Sm.rdm, if_true, List.length_map, flat_U]
 · rfl
 · simp only [Sm.rdm, h, Nat.zero_add, Nat.mul_one, List.drop_zero]
   rw [if_pos (by simp)]
   rw [List.take_append_of_le_length (by simp), List.take_of_length_le (by simp)]
theorem BV.fr {H X : Heap} {bs : List Nat} {v : HV} {l : List UInt8} (h : BV H v l) (hf : Fr bs H X) (hb : ∀ a ∈ fvb v, a ∉ bs) : BV X v l := by
 rcases h with h | h | ⟨a, c, zs, rfl, h⟩
 · exact .inl h
 · exact .inr (.inl h)
 · exact .inr (.inr ⟨a, c, zs, rfl, hf.get (hb a (by simp [fvb])) h⟩)
theorem r_lenB {S' : SpecT} {sl : List (Nat × EV)} {bx : List (Nat × List HV)} {H : Heap} {K : Env → Heap → Prop} {os : List SOper} {d : Nat} {x : Opd} {v : HV} {l : List UInt8} (hx : (M sl bx).hv x = some v) (hv : BV H v l) (h : rsem S' os (M ((d, .h (I l.length)) :: sl) bx) H K) : rsem S' (⟨some d, .len x, none⟩ :: os) (M sl bx) H K := by
 refine r_calm rfl ?_ h
 rcases hv with ⟨tk, rfl⟩ | ⟨rfl, rfl⟩ | ⟨a, c, zs, rfl, _⟩
 · simp only [SOp.ev, hx, List.length_map]
 · simp only [SOp.ev, hx]; rfl
 · simp only [SOp.ev, hx]
theorem BV.one {H : Heap} {v : HV} {l : List UInt8} (h : BV H v l) : v.one = true ∧ v.el = true ∧ v.ncells = 1 ∧ v.cells = [v] := by
 rcases h with ⟨tk, rfl⟩ | ⟨rfl, rfl⟩ | ⟨a, c, zs, rfl, _⟩ <;> exact ⟨rfl, rfl, rfl, rfl⟩
def CB (H : Heap) (v : HV) (l : List UInt8) : Prop := (v = .v (.slice none 0 0) ∧ l = []) ∨ (v = .sl .full 1 [] ∧ l = []) ∨ ∃ a c zs, v = .v (.slice (some ⟨a, 0, none⟩) l.length c) ∧ H a = some (.obj (l.map U ++ zs)) ∧ l.length ≤ c ∧ c ≤ maxLen ∧ zs.length = c - l.length
theorem r_appB {S' : SpecT} {sl : List (Nat × EV)} {bx : List (Nat × List HV)} {H : Heap} {K : Env → Heap → Prop} {os : List SOper} {d : Nat} {x y : Opd} {v yv : HV} {l ys : List UInt8} (hx : (M sl bx).hv x = some v) (hC : CB H v l) (hy : (M sl bx).hv y = some yv) (hY : BV H yv ys) (hl : l.length + ys.length ≤ 140737488355328)
   (hk : ∀ v' X, CB X v' (l ++ ys) → Fr (fvb v) H X → (∀ a ∈ fvb v', a ∈ fvb v ∨ H a = none) → rsem S' os (M ((d, .h v') :: sl) bx) X K) : rsem S' (⟨some d, .app 1 1 x y, none⟩ :: os) (M sl bx) H K := by
 have hr := hY.rdm
 rcases hC with ⟨rfl, rfl⟩ | ⟨rfl, rfl⟩ | ⟨a, c, zs, rfl, h1, h2, h3, h4⟩
 · cases ys with
   | nil =>
     rw [rsem_cons]
     refine .inr ?_
     simp only [hx, hy, appK, hr]
     refine ⟨fun _ => ?_, fun h => absurd rfl h⟩
     rw [rK_app, M_put]
     exact hk _ H (.inl ⟨rfl, rfl⟩) (Fr.refl _ _) (by simp [fvb])
   | cons u us =>
     refine r_appN hx hy hr (by simp) (by simpa using hl) fun b' c' zs X k1 k2 k3 k4 k5 k6 k7 => ?_
     refine hk _ X (.inr (.inr ⟨b', c', zs, rfl, k6, k2, k3, by rw [k4]; simp⟩)) (k7.mono (by simp)) (fun a ha => ?_)
     simp only [fvb, List.mem_singleton] at ha; subst ha; exact .inr k1
 · cases ys with
   | nil =>
     rw [rsem_cons]
     refine .inr ?_
     simp only [hx, hy, appK, hr]
     refine ⟨trivial, fun _ => ?_, fun h => absurd rfl h⟩
     rw [rK_app, M_put]
     exact hk _ H (.inr (.inl ⟨rfl, rfl⟩)) (Fr.refl _ _) (by simp [fvb])
   | cons u us =>
     refine r_appE hx hy hr (by simp) (by simpa using hl) fun b' c' zs X k1 k2 k3 k4 k5 k6 k7 => ?_
     refine hk _ X (.inr (.inr ⟨b', c', zs, rfl, k6, k2, k3, by rw [k4]; simp⟩)) (k7.mono (by simp)) (fun a ha => ?_)
     simp only [fvb, List.mem_singleton] at ha; subst ha; exact .inr k1
 · refine r_appO hx hy hr h1 h2 (by simp; omega) (by simpa using hl) (fun hc X k1 k2 => ?_) fun hc b' c' zs' X k1 k2 k3 k4 k5 k6 k7 => ?_
   · rw [← List.length_append]
     refine hk _ X (.inr (.inr ⟨a, c, zs.drop ys.length, rfl, ?_, by simpa using hc, h3, by simp [h4]; omega⟩)) (k2.mono (by simp [fvb])) (fun a' ha => .inl ha)
     rw [k1]
     congr 2
     rw [setL_eq _ _ _ (by simp; omega)]
     simp only [Nat.zero_add, Nat.mul_one, List.length_map, List.map_append]
     have e1 : (l.map U ++ zs).take l.length = l.map U := by rw [List.take_append_of_le_length (by simp), List.take_of_length_le (by simp)]
     have e2 : (l.map U ++ zs).drop (l.length + ys.length) = zs.drop ys.length := by
       rw [List.drop_append, List.drop_eq_nil_of_le (by simp), List.nil_append, List.length_map]
       congr 1; omega
     rw [e1, e2]
   · rw [← List.length_append]
     refine hk _ X (.inr (.inr ⟨b', c', zs', rfl, ?_, by simpa using k2, k3, by rw [k4]; simp⟩)) (k7.mono (by simp)) (fun a' ha => ?_)
     · rw [k6]
       simp only [Nat.mul_one, List.drop_zero, List.map_append]
       rw [List.take_append_of_le_length (by simp), List.take_of_length_le (by simp)]
     · simp only [fvb, List.mem_singleton] at ha; subst ha; exact .inr k1
theorem f_nv {res : List SRes} {R : HV → Heap → Prop} {hs : List HV} {e e1 : Env} {H H1 : Heap} (hv : VS e H e1 H1) (hr : resList e1 H1 res = some hs) (h : resK (some hs) H1 R) : finK res R .normal e H :=
 ⟨.inl rfl, e1, H1, hv, by rw [hr]; exact h⟩
def GV (H : Heap) (v : HV) (l : List UInt8) : Prop := Weak v (.sl .no 1 (l.map U)) ∨ ∃ a c zs, v = .v (.slice (some ⟨a, 0, none⟩) l.length c) ∧ H a = some (.obj (l.map U ++ zs)) ∧ l.length ≤ c ∧ c ≤ maxLen
theorem CB.gv {H : Heap} {v : HV} {l : List UInt8} (h : CB H v l) : GV H v l := by
 rcases h with ⟨rfl, rfl⟩ | ⟨rfl, rfl⟩ | ⟨a, c, zs, h⟩
 · exact .inl (Weak.nil' 1)
 · exact .inl (Weak.drop _ _ _)
 · exact .inr ⟨a, c, zs, h.1, h.2.1, h.2.2.1, h.2.2.2.1⟩
theorem CB.one {H : Heap} {v : HV} {l : List UInt8} (h : CB H v l) : v.one = true ∧ v.el = true ∧ v.ncells = 1 ∧ v.cells = [v] := by
 rcases h with ⟨rfl, rfl⟩ | ⟨rfl, rfl⟩ | ⟨a, c, zs, rfl, _⟩ <;> exact ⟨rfl, rfl, rfl, rfl⟩
theorem GV.fr {H X : Heap} {bs : List Nat} {v : HV} {l : List UInt8} (h : GV H v l) (hf : Fr bs H X) (hb : ∀ a ∈ fvb v, a ∉ bs) : GV X v l := by
 rcases h with h | ⟨a, c, zs, rfl, h, h2⟩
 · exact .inl h
 · exact .inr ⟨a, c, zs, rfl, hf.get (hb a (by simp [fvb])) h, h2⟩
theorem FWL.app {b : Nat} {cs : List HV} : ∀ {x y z u : List HV}, FWL b cs x y → FWL b cs z u → FWL b cs (x ++ z) (y ++ u)
 | [], [], _, _, _, h => h
 | x :: a, y :: b, _, _, h, k => ⟨h.1, FWL.app h.2 k⟩
 | [], _ :: _, _, _, h, _ => h.elim
 | _ :: _, [], _, _, h, _ => h.elim
theorem vs_file {H X : Heap} {b : Nat} {h : Hd} {d : Dk} {fb c i : Nat} {zs : List HV} {v : HV} {nb : List UInt8} {s : Nat} (hD : KD H b h d) (he : h.fv = .v (.slice (some ⟨fb, 0, none⟩) d.f.length c)) (hc : d.f.length ≤ c ∧ c ≤ maxLen ∧ zs.length = (c - d.f.length) * 2 ∧ zs.all HV.one = true) (hi : i < d.f.length)
   (hX : X fb = some (.obj (fsw d.f i v (I s) zs))) (hf : Fr [fb] H X) (hn : ∀ a ∈ fvb v, H a = none) (hg : GV X v nb) : ∃ Y, (∀ e, VS e X (M [] []) Y) ∧ KD Y b h { d with f := d.f.set i ⟨nb, s⟩ } ∧ Own H Y (h.bs b) (h.bs b) := by
 have hnd := hD.nd
 simp only [Hd.bs, he, fvb, List.nodup_cons, List.mem_cons, List.not_mem_nil, or_false, not_or] at hnd
 obtain ⟨⟨q1, q2, q3⟩, ⟨q4, q5⟩, q6, q7⟩ := hnd
 have hfb : fb ∈ h.bs b := by simp [Hd.bs, he, fvb]
 have key : ∀ Y : Heap, Fr [fb] H Y → Y fb = some (.obj (fsw d.f i (.sl .no 1 (nb.map U)) (I s) zs)) → KD Y b h { d with f := d.f.set i ⟨nb, s⟩ } ∧ Own H Y (h.bs b) (h.bs b) := by
   intro Y fY hY
   refine ⟨⟨fY.get (by simpa using q3) hD.ob, hD.su.fr fY (by simpa using q5), hD.no.fr fY (by simpa using q6), .inr ⟨fb, c, zs, ?_, ?_, ?_, hc.2.1, ?_, hc.2.2.2⟩, hD.nd⟩, Own.set fY (by simpa using hfb)⟩
   · rw [he]; simp
   · rw [hY]; simp only; rw [fsw_fin hi]
   · simpa using hc.1
   · simpa using hc.2.2.1
 rcases hg with hw | ⟨a, ca, za, rfl, ha, hc1, hc2⟩
 · have hsub : (X.upd fb (some (.obj (fsw d.f i (.sl .no 1 (nb.map U)) (I s) zs)))).sub X :=
     sub_upd hX (WeakL.app (WeakL.refl _) ⟨hw, Weak.refl _, WeakL.refl _⟩) (fsw_one rfl rfl hc.2.2.2)
   refine ⟨_, fun e => VS.of ⟨fun t x hx => by simp [M, Env.get, lq] at hx, fun k cs hx => by simp [M, Env.box, lq] at hx, fun t k o hx => by simp [M, Env.get, lq] at hx⟩ hsub, key _ (hf.trans (Fr.set (by simp))) (Heap.upd_same _ _ _)⟩
 · have hna : H a = none := hn a (by simp [fvb])
   have hafb : a ≠ fb := fun e => by
     obtain ⟨r, hr⟩ := hD.held fb hfb
     rw [← e, hna] at hr; cases hr
   refine ⟨(X.upd a none).upd fb (some (.obj (fsw d.f i (.sl .no 1 (nb.map U)) (I s) zs))), fun e => VS.freeze ha (fun t x hx => by simp [M, Env.get, lq] at hx) (fun k cs hx => by simp [M, Env.box, lq] at hx) (fun t k o hx => by simp [M, Env.get, lq] at hx) (fun x r hx => ?_), key _ ?_ (Heap.upd_same _ _ _)⟩
   · by_cases hxf : x = fb
     · subst hxf
       rw [Heap.upd_same] at hx; cases hx
       refine ⟨hafb.symm, _, hX, .inr ⟨FWL.app (FWL.refl _ _ _) ⟨FW.slice (sz := 1) ?_ (by simp) (by simp) hc1 hc2 ?_ ?_, FW.refl _ _ _, FWL.refl _ _ _⟩, fsw_one rfl rfl hc.2.2.2⟩⟩
       · rw [flat_U, Nat.mul_one, List.take_append_of_le_length (by simp), List.take_of_length_le (by simp)]
       · simp [HV.el, HV.one, Value.oneCell']
       · intro x hx
         obtain ⟨u, _, rfl⟩ := List.mem_map.mp hx
         rfl
     · rw [Heap.upd_ne _ _ hxf] at hx
       by_cases hxa : x = a
       · subst hxa; rw [Heap.upd_same] at hx; cases hx
       · rw [Heap.upd_ne _ _ hxa] at hx
         exact ⟨hxa, r, hx, .inl rfl⟩
   · refine fun x r hx hr => ?_
     simp only [List.mem_cons, List.not_mem_nil, or_false] at hx
     have hxa : x ≠ a := fun e => by rw [e, hna] at hr; cases hr
     rw [Heap.upd_ne _ _ hx, Heap.upd_ne _ _ hxa]
     exact hf x r (by simpa using hx) hr
theorem vs_file' {H X : Heap} {b : Nat} {h : Hd} {d : Dk} {fb c i : Nat} {zs : List HV} {v : HV} {nb : List UInt8} {s : Nat} (hD : KD H b h d) (he : h.fv = .v (.slice (some ⟨fb, 0, none⟩) d.f.length c)) (hc : d.f.length ≤ c ∧ c ≤ maxLen ∧ zs.length = (c - d.f.length) * 2 ∧ zs.all HV.one = true) (hi : i < d.f.length)
   (hX : X fb = some (.obj (fsw d.f i v (I s) zs))) (hf : Fr [fb] H X) (hw : Weak v (.sl .no 1 (nb.map U))) : ∃ Y, (∀ e, VS e X e Y) ∧ KD Y b h { d with f := d.f.set i ⟨nb, s⟩ } ∧ Own H Y (h.bs b) (h.bs b) := by
 have hnd := hD.nd
 simp only [Hd.bs, he, fvb, List.nodup_cons, List.mem_cons, List.not_mem_nil, or_false, not_or] at hnd
 obtain ⟨⟨q1, q2, q3⟩, ⟨q4, q5⟩, q6, q7⟩ := hnd
 have hfb : fb ∈ h.bs b := by simp [Hd.bs, he, fvb]
 have hsub : (X.upd fb (some (.obj (fsw d.f i (.sl .no 1 (nb.map U)) (I s) zs)))).sub X :=
   sub_upd hX (WeakL.app (WeakL.refl _) ⟨hw, Weak.refl _, WeakL.refl _⟩) (fsw_one rfl rfl hc.2.2.2)
 have fY : Fr [fb] H (X.upd fb (some (.obj (fsw d.f i (.sl .no 1 (nb.map U)) (I s) zs)))) := hf.trans (Fr.set (by simp))
 refine ⟨_, fun e => VS.sub hsub, ⟨fY.get (by simpa using q3) hD.ob, hD.su.fr fY (by simpa using q5), hD.no.fr fY (by simpa using q6), .inr ⟨fb, c, zs, ?_, ?_, ?_, hc.2.1, ?_, hc.2.2.2⟩, hD.nd⟩, Own.set fY (by simpa using hfb)⟩
 · rw [he]; simp
 · rw [Heap.upd_same]; simp only; rw [fsw_fin hi]
 · simpa using hc.1
 · simpa using hc.2.2.1
end Sm
namespace Sm
open Go
attribute [local irreducible] csem rsem dsem seqK blockK normK finK DK RK JK BR G3 resK Spec Tok Fr CV
theorem cloneC_spec (L : Linked code) (tk : Tk) (l : List UInt8) (hl : l.length ≤ 140737488355328) (H : Heap) (K) (hk : ∀ v X, CB X v l → Fr [] H X → (∀ a ∈ fvb v, H a = none) → K v X) : Spec L.P L.ν 186 [.sl tk 1 (l.map U)] H K := by
 refine go_spec L code186 rfl ?_
 repeat (refine gk dkU ?_)
 refine r_isnil rfl fun t ht => ?_
 cases t
 · repeat (refine gk dkU ?_)
   refine r_appB (v := .sl .full 1 []) (l := []) rfl (.inr (.inl ⟨rfl, rfl⟩)) rfl (.inl ⟨tk, rfl⟩) (by simpa using hl) fun v X h1 h2 h3 => ?_
   rw [List.nil_append] at h1
   repeat (refine gk dkU ?_)
   exact resK_some (hk v X h1 h2 (fun a ha => (h3 a ha).resolve_left (by simp [fvb])))
 · have hl : l = [] := by simpa using ht rfl
   subst hl
   repeat (refine gk dkU ?_)
   exact resK_some (hk (.v (.slice none 0 0)) H (.inl ⟨rfl, rfl⟩) (Fr.refl _ _) (by simp [fvb]))
theorem dwith_spec (L : Linked code) (b : Nat) (h : Hd) (d : Dk) (p : List UInt8) (gf gg : Nat) (cf cg : List HV) (may : Fl → Int) (g : Fl → Fl) (n m : Nat) (hw : d.WF n m) (hn : n < 1048576) (hp : p.length ≤ 1048576) (H : Heap) (hD : KD H b h d)
   (hmay : ∀ i, i < d.f.length → ∀ X, KD X b h d → Fr [] H X → ∀ K, (∀ Y, Fr [] X Y → K (I (may (d.f.getD i default))) Y) → Spec L.P L.ν gf ([fpV h.fv i] ++ cf) X K)
   (hdo : ∀ i, i < d.f.length → may (d.f.getD i default) = 0 → ∀ ops fails wrong down X, KD X b h (d.ctr ops fails wrong down) → Own H X (h.bs b) (h.bs b) → ∀ K, (∀ Y h' r, KD Y b h' ({ d with f := d.f.set i (g (d.f.getD i default)) }.ctr ops fails wrong down) → Own X Y (h.bs b) (h'.bs b) → K r Y) → Spec L.P L.ν gg ([fpV h.fv i] ++ cg) X K)
   (K) (hk : ∀ Y h', KD Y b h' (d.with' p may g).1 → Own H Y (h.bs b) (h'.bs b) → K (I (d.with' p may g).2) Y) : Spec L.P L.ν 339 [ptr b, S p, .fn gf cf, .fn gg cg] H K := by
 unfold Dk.with' at hk
 have hlen := hw.len
 have hop := hw.op
 refine go_spec L code339 rfl ?_
 repeat (refine gk dkU ?_)
 refine bxk dkU ?_
 intro c7 X1 h7 x7 f1 _
 have hD1 := hD.fr0 f1
 have n7 := hD.new h7
 repeat (refine gk dkU ?_)
 (apply r_call; (focus rfl))
 refine asked_spec L b h d .full [p] (by simpa using hp) (by simp) X1 hD1 _ fun X4 f4 => ?_
 rw [askD_one]
 have fa := f1.trans f4
 have hD4 := hD1.fr0 f4
 have x7c := f4.get (by simp) x7
 repeat (refine gk dkU ?_)
 cases c1 : (d.asked p != 0)
 case true =>
   have c1' : d.asked p ≠ 0 := by simpa using c1
   rw [if_pos c1'] at hk
   repeat (refine gk (And.intro dkU c1) ?_)
   exact resK_some (hk X4 h hD4 (Own.of _ fa))
 have c1' : ¬ d.asked p ≠ 0 := by simpa using c1
 rw [if_neg c1'] at hk
 repeat (refine gk (And.intro dkU c1) ?_)
 (apply r_call; (focus rfl))
 refine dfile_spec L b h d p hw.now_sn (fun x hx => (hw.now_ok x hx).2.1) X4 hD4 _ ?_
 cases c2 : (fileD d.now p != 0)
 case true =>
   have c2' : fileD d.now p ≠ 0 := by simpa using c2
   rw [if_pos c2'] at hk
   rw [if_neg c2']
   repeat (refine gk dkU ?_)
   refine r_allocH fun ca hca => ?_
   have fn1 : Fr [] X4 (X4.upd ca (some (.obj [.v (.pointer none)]))) := Fr.new hca
   generalize hX5 : X4.upd ca (some (.obj [.v (.pointer none)])) = X5 at fn1
   have xa : X5 ca = some (.obj [.v (.pointer none)]) := by rw [← hX5, Heap.upd_same]
   repeat (refine gk dkU ?_)
   refine sxk dkU ?_
   intro X6 x6 f6
   have fb := (fa.trans fn1).own (fa.of_none hca) f6
   repeat (refine gk (And.intro dkU c2) ?_)
   exact resK_some (hk X6 h (hD.fr0 fb) (Own.of _ fb))
 have c2' : fileD d.now p = 0 := by simpa using c2
 rw [if_neg (by simp [c2'])] at hk
 rw [if_pos c2']
 have hi : idD d.now p < d.f.length := by
   unfold fileD at c2'
   unfold idD
   cases hg : getN d.now p with
   | none => rw [hg] at c2'; cases c2'
   | some x =>
     rw [hg] at c2'
     simp only at c2' ⊢
     cases hxd : x.dir
     · exact (hw.now_ok x (getN_mem hg).1).2.1 hxd
     · rw [hxd] at c2'; cases c2'
 obtain ⟨fb, c, hfv⟩ : ∃ fb c, h.fv = .v (.slice (some ⟨fb, 0, none⟩) d.f.length c) := by
   rcases hD.fs with ⟨_, h0⟩ | ⟨fb, c, zs, e1, _⟩
   · rw [h0] at hi; exact absurd hi (Nat.not_lt_zero _)
   · exact ⟨fb, c, e1⟩
 have hmay' := hmay _ hi
 have hdo' := hdo _ hi
 rw [fpV_of hfv] at hmay' hdo' ⊢
 repeat (refine gk dkU ?_)
 refine r_allocH fun ca hca => ?_
 have fn1 : Fr [] X4 (X4.upd ca (some (.obj [.v (.pointer none)]))) := Fr.new hca
 generalize hX5 : X4.upd ca (some (.obj [.v (.pointer none)])) = X5 at fn1
 have xa : X5 ca = some (.obj [.v (.pointer none)]) := by rw [← hX5, Heap.upd_same]
 repeat (refine gk dkU ?_)
 refine sxk dkU ?_
 intro X6 x6 f6
 have na := hD.new (fa.of_none hca)
 have fb6 : Fr [] H X6 := (fa.trans fn1).own (fa.of_none hca) f6
 have h7a : c7 ≠ ca := fun e => by subst e; rw [hca] at x7c; cases x7c
 have x7d := f6.get (by simpa using h7a) (fn1.get (by simp) x7c)
 have hD6 := hD.fr0 fb6
 repeat (refine gk (And.intro dkU c2) ?_)
 apply r_callv; (focus rfl); (focus rfl)
 refine hmay' X6 hD6 fb6 _ fun X7 f7 => ?_
 have x7e := f7.get (by simp) x7d
 have x6e := f7.get (by simp) x6
 have hD7 := hD6.fr0 f7
 have f07 := fb6.trans f7
 repeat (refine gk dkU ?_)
 cases c3 : (may (d.f.getD (idD d.now p) default) != 0)
 case true =>
   have c3' : may (d.f.getD (idD d.now p) default) ≠ 0 := by simpa using c3
   rw [if_pos c3'] at hk
   repeat (refine gk (And.intro dkU c3) ?_)
   exact resK_some (hk X7 h hD7 (Own.of _ f07))
 have c3' : ¬ may (d.f.getD (idD d.now p) default) ≠ 0 := by simpa using c3
 rw [if_neg c3'] at hk
 repeat (refine gk (And.intro dkU c3) ?_)
 (apply r_call; (focus rfl))
 refine step_spec L b h d { d with f := d.f.set (idD d.now p) (g (d.f.getD (idD d.now p) default)) } (by omega) hw.fa hw.wr rfl _ X7 hD7 (fun ops fails wrong down X hX oX K1 hk1 => ?_) _ fun Y h' hY oY => ?_
 · refine cv_fn ?_
   have y7 := oX.get n7 x7e
   have y6 := oX.get na x6e
   refine go_spec L code367 rfl ?_
   repeat (refine gk dkU ?_)
   apply r_callv; (focus rfl); (focus rfl)
   refine hdo' (by simpa using c3') ops fails wrong down X hX ((Own.of _ f07).trans oX) _ fun Y h' r hY oY => ?_
   repeat (refine gk dkU ?_)
   exact resK_some (hk1 Y h' _ hY oY)
 · repeat (refine gk dkU ?_)
   exact resK_some (hk Y h' hY ((Own.of _ f07).trans oY))
end Sm
namespace Sm
open Go
theorem BV.own {H X : Heap} {bs bs' : List Nat} {v : HV} {l : List UInt8} (h : BV H v l) (k : Own H X bs bs') (hb : ∀ a ∈ fvb v, a ∉ bs) : BV X v l := h.fr k.fr hb
theorem r_boxV {S : SpecT} {sl : List (Nat × EV)} {bx : List (Nat × List HV)} {H : Heap} {K : Env → Heap → Prop} {os : List SOper} {d : Nat} {x : Opd} {v : HV} (hx : (M sl bx).hv x = some v) (hc : v.el = true ∧ v.ncells = 1 ∧ v.cells = [v])
   (h : ∀ b X, H b = none → X b = some (.obj [v]) → Fr [] H X → H.sub X → rsem S os (M ((d, .h (ptr b)) :: sl) bx) X K) : rsem S (⟨some d, .box none 1 x, none⟩ :: os) (M sl bx) H K :=
 r_boxX hx hc.2.2 hc.2.1 hc.1 h
attribute [local irreducible] csem rsem dsem seqK blockK normK finK DK RK JK BR G3 resK Spec Tok Fr CV
theorem dappend_spec (L : Linked code) (b : Nat) (h : Hd) (d : Dk) (p : List UInt8) (bv : HV) (l : List UInt8) (n m : Nat) (hw : d.WF n m) (hn : n < 1048576) (hnm : n * m ≤ 1152921504606846976) (hm : m + l.length ≤ 140737488355328) (hp : p.length ≤ 1048576) (H : Heap) (hD : KD H b h d) (hb : BV H bv l) (hbv : ∀ a ∈ fvb bv, a ∉ h.bs b)
   (K) (hk : ∀ Y h', KD Y b h' (d.append p l).1 → Own H Y (h.bs b) (h'.bs b) → K (I (d.append p l).2) Y) : Spec L.P L.ν 302 [ptr b, S p, bv] H K := by
 have hone := hb.one
 have hul := used_le hw
 have hrm := hw.rm
 refine go_spec L code302 rfl ?_
 repeat (refine gk dkU ?_)
 refine bxk dkU ?_
 intro c3 X1 h3 x3 f1 _
 have n3 := hD.new h3
 have hb1 := hb.fr f1 (by simp)
 repeat (refine gk dkU ?_)
 refine r_boxV rfl ⟨hone.2.1, hone.2.2.1, hone.2.2.2⟩ fun c5 X2 h5 x5 f2 _ => ?_
 have n5 := hD.new (f1.of_none h5)
 have x3' := f2.get (by simp) x3
 have fa := f1.trans f2
 have hD2 := hD.fr0 fa
 have hb2 := hb1.fr f2 (by simp)
 repeat (refine gk dkU ?_)
 (apply r_call; (focus rfl))
 refine dwith_spec L b h d p 340 341 [ptr c5, ptr c3] [ptr c5] (fun _ => if d.room - d.used < l.length then 10 else 0) (fun f => ⟨f.b ++ l, f.safe⟩) n m hw hn hp X2 hD2 (fun i hi X hX fX K1 hk1 => ?_) (fun i hi _ ops fails wrong down X hX oX K1 hk1 => ?_) _ fun Y h' hY oY => ?_
 · have y3 := fX.get (by simp) x3'
   have y5 := fX.get (by simp) x5
   have ob := hX.ob
   have hbX := hb2.fr fX (by simp)
   refine go_spec L code340 rfl ?_
   repeat (refine gk dkU ?_)
   refine r_lenB rfl hbX ?_
   repeat (refine gk dkU ?_)
   (apply r_call; (focus rfl))
   refine dused_spec L b h d n m hw hnm X hX _ fun Y fY => ?_
   have z3 := fY.get (by simp) y3
   have z5 := fY.get (by simp) y5
   have zb := fY.get (by simp) ob
   repeat (refine gk dkU ?_)
   have hk2 := hk1 Y fY
   cases c1 : decide (d.room - (d.used : Int) < (l.length : Int))
   case true =>
     rw [if_pos (by simpa using c1)] at hk2
     repeat (refine gk (And.intro dkU c1) ?_)
     exact resK_some hk2
   rw [if_neg (by simpa using c1)] at hk2
   repeat (refine gk (And.intro dkU c1) ?_)
   exact resK_some hk2
 · have y5 := oX.get n5 x5
   have hbX := hb2.own oX hbv
   have hX' : KD X b h (d.ctr ops fails wrong down) := hX
   obtain ⟨fb, c, zs, hfv, k1, k2⟩ : ∃ fb c zs, h.fv = .v (.slice (some ⟨fb, 0, none⟩) d.f.length c) ∧ X fb = some (.obj (flsC d.f ++ zs)) ∧ d.f.length ≤ c ∧ c ≤ maxLen ∧ zs.length = (c - d.f.length) * 2 ∧ zs.all HV.one = true := by
     rcases hX.fs with ⟨_, h0⟩ | h0
     · have h0' : d.f = [] := h0
       rw [h0'] at hi; exact absurd hi (Nat.not_lt_zero _)
     · exact h0
   rw [fpV_of hfv, getD_at hi] at *
   have hsz := hw.sz _ (List.getElem_mem hi)
   refine go_spec L code341 rfl ?_
   repeat (refine gk dkU ?_)
   apply r_load; (focus rfl); (focus exact k1); (focus exact load_fl0 hi (by simp) zs)
   repeat (refine gk dkU ?_)
   (apply r_call; (focus rfl))
   refine cloneC_spec L .no d.f[i].b (by omega) X _ fun v1 X1' hc1 g1 gn1 => ?_
   have y5' := g1.get (by simp) y5
   have k1' := g1.get (by simp) k1
   have hbX1 := hbX.fr g1 (by simp)
   repeat (refine gk dkU ?_)
   refine r_appB rfl hc1 rfl hbX1 (by omega) fun v2 X2' hc2 g2 gn2 => ?_
   have hone2 := hc2.one
   have hfbn : fb ∉ fvb v1 := fun hm => by have := gn1 _ hm; rw [k1] at this; cases this
   have k2' := g2.get hfbn k1'
   rw [fsw_of hi] at k2'
   have gX : Fr [] X X2' := by
     refine Fr.make2 fun a r _ hr => ?_
     refine g2.get (fun hm => ?_) (g1.get (by simp) hr)
     have := gn1 _ hm; rw [hr] at this; cases this
   have gn : ∀ a ∈ fvb v2, X a = none := fun a ha => by
     rcases gn2 a ha with h1 | h1
     · exact gn1 a h1
     · exact g1.of_none h1
   repeat (refine gk dkU ?_)
   apply r_storeO; (focus rfl); (focus exact hone2.2.2.1); (focus exact hone2.2.1); (focus rfl); (focus exact k2'); (focus (have := fsw_len (v := .sl .no 1 (d.f[i].b.map U)) (w := I d.f[i].safe) (zs := zs) hi; omega))
   intro X3 x3'' f3
   have x3f : X3 fb = some (.obj (fsw d.f i v2 (I d.f[i].safe) zs)) := by
     rw [x3'', hone2.2.2.2]
     have e : setL (fsw d.f i (.sl .no 1 (d.f[i].b.map U)) (I d.f[i].safe) zs) (i * 2 + 0) [v2] = (fsw d.f i (.sl .no 1 (d.f[i].b.map U)) (I d.f[i].safe) zs).set (i * 2) v2 := rfl
     rw [e, fsw_set0 hi]
   have hv2 : ∀ a ∈ fvb v2, a ∉ [fb] := fun a ha hm => by
     rw [List.mem_singleton] at hm; subst hm
     have := gn _ ha; rw [k1] at this; cases this
   obtain ⟨Y, hvs, hY, oY⟩ := vs_file (s := d.f[i].safe) hX hfv k2 hi x3f ((gX.mono (by simp)).trans f3) gn (hc2.gv.fr f3 hv2)
   refine r_nil (dk_nil (d_nil (n_n (f_nv (hvs _) rfl (resK_some (hk1 Y h _ hY oY))))))
 · repeat (refine gk dkU ?_)
   exact resK_some (hk Y h' hY ((Own.of _ fa).trans oY))
end Sm
namespace Sm
open Go
theorem KD.row {X : Heap} {b : Nat} {h : Hd} {d : Dk} (hX : KD X b h d) {i : Nat} (hi : i < d.f.length) : ∃ fb c zs, h.fv = .v (.slice (some ⟨fb, 0, none⟩) d.f.length c) ∧ X fb = some (.obj (flsC d.f ++ zs)) ∧ d.f.length ≤ c ∧ c ≤ maxLen ∧ zs.length = (c - d.f.length) * 2 ∧ zs.all HV.one = true := by
 rcases hX.fs with ⟨_, h0⟩ | h0
 · rw [h0] at hi; exact absurd hi (Nat.not_lt_zero _)
 · exact h0
attribute [local irreducible] csem rsem dsem seqK blockK normK finK DK RK JK BR G3 resK Spec Tok Fr CV
theorem dcut_spec (L : Linked code) (b : Nat) (h : Hd) (d : Dk) (p : List UInt8) (k : Int) (n m : Nat) (hw : d.WF n m) (hn : n < 1048576) (hp : p.length ≤ 1048576) (H : Heap) (hD : KD H b h d)
   (K) (hk : ∀ Y h', KD Y b h' (d.cut p k).1 → Own H Y (h.bs b) (h'.bs b) → K (I (d.cut p k).2) Y) : Spec L.P L.ν 301 [ptr b, S p, I k] H K := by
 refine go_spec L code301 rfl ?_
 repeat (refine gk dkU ?_)
 refine bxk dkU ?_
 intro c5 X2 h5 x5 fa _
 have n5 := hD.new h5
 have hD2 := hD.fr0 fa
 repeat (refine gk dkU ?_)
 (apply r_call; (focus rfl))
 refine dwith_spec L b h d p 337 338 [ptr c5] [ptr c5] (fun f => if k < 0 ∨ k > f.b.length then 13 else 0) (fun f => ⟨f.b.take k.toNat, min k.toNat f.safe⟩) n m hw hn hp X2 hD2 (fun i hi X hX fX K1 hk1 => ?_) (fun i hi hmay ops fails wrong down X hX oX K1 hk1 => ?_) _ fun Y h' hY oY => ?_
 · have y5 := fX.get (by simp) x5
   obtain ⟨fb, c, zs, hfv, k1, k2⟩ := hX.row hi
   rw [fpV_of hfv, getD_at hi] at *
   have hk2 := hk1 X (Fr.refl _ _)
   refine go_spec L code337 rfl ?_
   repeat (refine gk dkU ?_)
   cases c1 : decide (k < 0)
   case true =>
     rw [if_pos (.inl (by simpa using c1))] at hk2
     repeat (refine gk dkU ?_)
     exact resK_some hk2
   repeat (refine gk dkU ?_)
   apply r_load; (focus rfl); (focus exact k1); (focus exact load_fl0 hi (by simp) zs)
   repeat (refine gk dkU ?_)
   cases c2 : decide ((d.f[i].b.length : Int) < k)
   case true =>
     rw [if_pos (.inr (by simpa using c2))] at hk2
     repeat (refine gk dkU ?_)
     exact resK_some hk2
   rw [if_neg (by simp at c1 c2; omega)] at hk2
   repeat (refine gk dkU ?_)
   exact resK_some hk2
 · have y5 := oX.get n5 x5
   obtain ⟨fb, c, zs, hfv, k1, k2⟩ := hX.row hi
   have hX2 : (d.ctr ops fails wrong down).f = d.f := rfl
   rw [hX2] at hfv k1 k2
   rw [fpV_of hfv, getD_at hi] at *
   have hsz := hw.sz _ (List.getElem_mem hi)
   have hkk : 0 ≤ k ∧ k ≤ d.f[i].b.length := by
     by_cases hc : k < 0 ∨ k > (d.f[i].b.length : Int)
     · rw [if_pos hc] at hmay; cases hmay
     · omega
   refine go_spec L code338 rfl ?_
   repeat (refine gk dkU ?_)
   apply r_load; (focus rfl); (focus exact k1); (focus exact load_fl0 hi (by simp) zs)
   repeat (refine gk dkU ?_)
   apply r_slcT (k := k.toNat); (focus rfl); (focus rfl); (focus rfl); (focus omega); (focus omega); (focus (simp; omega))
   rw [← List.map_take]
   repeat (refine gk dkU ?_)
   apply r_load; (focus rfl); (focus exact k1); (focus exact load_fl1 hi (by simp) zs)
   repeat (refine gk dkU ?_)
   rw [fsw_of hi] at k1
   apply r_storeO; (focus rfl); (focus rfl); (focus rfl); (focus rfl); (focus exact k1); (focus (have := fsw_len (v := .sl .no 1 (d.f[i].b.map U)) (w := I d.f[i].safe) (zs := zs) hi; omega))
   intro X3 x3 f3
   have hfb5 : c5 ≠ fb := fun e => n5 (by simp [Hd.bs, hfv, fvb, e])
   have y5' := f3.get (by simpa using hfb5) y5
   have x3' : X3 fb = some (.obj (fsw d.f i (.sl .full 1 ((d.f[i].b.take k.toNat).map U)) (I d.f[i].safe) zs)) := by
     rw [x3]
     have e : setL (fsw d.f i (.sl .no 1 (d.f[i].b.map U)) (I d.f[i].safe) zs) (i * 2 + 0) (HV.sl .full 1 ((d.f[i].b.take k.toNat).map U)).cells = (fsw d.f i (.sl .no 1 (d.f[i].b.map U)) (I d.f[i].safe) zs).set (i * 2) (.sl .full 1 ((d.f[i].b.take k.toNat).map U)) := rfl
     rw [e, fsw_set0 hi]
   repeat (refine gk dkU ?_)
   apply r_storeO; (focus rfl); (focus rfl); (focus rfl); (focus rfl); (focus exact x3'); (focus (have := fsw_len (v := .sl .full 1 ((d.f[i].b.take k.toNat).map U)) (w := I d.f[i].safe) (zs := zs) hi; omega))
   intro X4 x4 f4
   have e4 : min k (d.f[i].safe : Int) = ((min k.toNat d.f[i].safe : Nat) : Int) := by omega
   have x4' : X4 fb = some (.obj (fsw d.f i (.sl .full 1 ((d.f[i].b.take k.toNat).map U)) (I ((min k.toNat d.f[i].safe : Nat) : Int)) zs)) := by
     rw [x4, ← e4]
     have e : setL (fsw d.f i (.sl .full 1 ((d.f[i].b.take k.toNat).map U)) (I d.f[i].safe) zs) (i * 2 + 1) (I (min k (d.f[i].safe : Int))).cells = (fsw d.f i (.sl .full 1 ((d.f[i].b.take k.toNat).map U)) (I d.f[i].safe) zs).set (i * 2 + 1) (I (min k (d.f[i].safe : Int))) := rfl
     rw [e, fsw_set1 hi]
   obtain ⟨Y, hvs, hY, oY⟩ := vs_file (s := min k.toNat d.f[i].safe) hX hfv k2 hi x4' (f3.trans f4) (by simp [fvb]) (.inl (Weak.drop _ _ _))
   refine r_nil (dk_nil (d_nil (n_n (f_nv (hvs _) rfl (resK_some (hk1 Y h _ hY oY))))))
 · repeat (refine gk dkU ?_)
   exact resK_some (hk Y h' hY ((Own.of _ fa).trans oY))
theorem dsync_spec (L : Linked code) (b : Nat) (h : Hd) (d : Dk) (p : List UInt8) (n m : Nat) (hw : d.WF n m) (hn : n < 1048576) (hp : p.length ≤ 1048576) (H : Heap) (hD : KD H b h d)
   (K) (hk : ∀ Y h', KD Y b h' (d.sync p).1 → Own H Y (h.bs b) (h'.bs b) → K (I (d.sync p).2) Y) : Spec L.P L.ν 303 [ptr b, S p] H K := by
 refine go_spec L code303 rfl ?_
 repeat (refine gk dkU ?_)
 (apply r_call; (focus rfl))
 refine dwith_spec L b h d p 342 343 [] [] (fun f => 0) (fun f => ⟨f.b, f.b.length⟩) n m hw hn hp H hD (fun i hi X hX fX K1 hk1 => ?_) (fun i hi hmay ops fails wrong down X hX oX K1 hk1 => ?_) _ fun Y h' hY oY => ?_
 · refine go_spec L code342 rfl ?_
   repeat (refine gk dkU ?_)
   exact resK_some (hk1 X (Fr.refl _ _))
 · obtain ⟨fb, c, zs, hfv, k1, k2⟩ := hX.row hi
   have hX2 : (d.ctr ops fails wrong down).f = d.f := rfl
   rw [hX2] at hfv k1 k2
   rw [fpV_of hfv, getD_at hi] at *
   have hsz := hw.sz _ (List.getElem_mem hi)
   refine go_spec L code343 rfl ?_
   repeat (refine gk dkU ?_)
   apply r_load; (focus rfl); (focus exact k1); (focus exact load_fl0 hi (by simp) zs)
   repeat (refine gk dkU ?_)
   rw [fsw_of hi] at k1
   apply r_storeO; (focus rfl); (focus rfl); (focus rfl); (focus rfl); (focus exact k1); (focus (have := fsw_len (v := .sl .no 1 (d.f[i].b.map U)) (w := I d.f[i].safe) (zs := zs) hi; omega))
   intro X3 x3 f3
   have x3' : X3 fb = some (.obj (fsw d.f i (.sl .no 1 (d.f[i].b.map U)) (I d.f[i].b.length) zs)) := by
     rw [x3]
     have e : setL (fsw d.f i (.sl .no 1 (d.f[i].b.map U)) (I d.f[i].safe) zs) (i * 2 + 1) (I (d.f[i].b.length : Int)).cells = (fsw d.f i (.sl .no 1 (d.f[i].b.map U)) (I d.f[i].safe) zs).set (i * 2 + 1) (I (d.f[i].b.length : Int)) := rfl
     rw [e, fsw_set1 hi]
   obtain ⟨Y, hvs, hY, oY⟩ := vs_file (s := d.f[i].b.length) hX hfv k2 hi x3' f3 (by simp [fvb]) (.inl (Weak.refl _))
   refine r_nil (n_n (f_nv (hvs _) rfl (resK_some (hk1 Y h _ hY oY))))
 · repeat (refine gk dkU ?_)
   exact resK_some (hk Y h' hY oY)
end Sm
namespace Sm
open Go
theorem chkP_len {p : List UInt8} (h : chkP p = 0) : p.length ≤ 128 := by
 unfold chkP at h
 split at h
 · cases h
 · omega
theorem mv_ok {d : Dk} {n m : Nat} (hw : d.WF n m) {x : Nm} (b : List UInt8) : okC d.now (.mv x (getN d.now b) b) := by
 refine ⟨fun z hz n hn he => ?_, ?_⟩
 · simp only [Chg.came, List.mem_singleton] at hz; subst hz
   have hg := getN_of hw.now_sn.nd hn
   rw [he] at hg
   simp only at hg
   simp [goneN, hg, Chg.gone]
 · cases hg : getN d.now b with
   | none => trivial
   | some y => exact (getN_mem hg).2
theorem askD_two (d : Dk) (a b : List UInt8) : askD d [a, b] = if d.asked a ≠ 0 then d.asked a else chkP b := by
 unfold askD Dk.asked
 cases d.down
 · simp only [askL]
   by_cases h1 : chkP a = 0
   · by_cases h2 : chkP b = 0 <;> simp [h1, h2]
   · simp [h1]
 · rfl
theorem vs_rp {sl : List (Nat × EV)} {bx : List (Nat × List HV)} {H : Heap} {t b : Nat} {cs : List HV} (hx : (M sl bx).get t = some (.h (ptr b))) (hb : H b = some (.obj cs)) : VS (M sl bx) H (M ((t, .h (.rp cs)) :: sl) bx) (H.upd b none) := by
 refine VS.freeze hb (fun s x hs => ?_) (fun k c1 hk => ⟨c1, hk, .inl rfl⟩) (fun s k o hs hk => hk) fun a r ha => ?_
 · rw [M_cons_get] at hs
   split at hs
   · rename_i e; subst e
     simp only [Option.some.injEq] at hs; subst hs
     exact ⟨_, hx, .inr FW.ptr⟩
   · exact ⟨x, hs, .inl rfl⟩
 · by_cases h : a = b
   · subst h; rw [Heap.upd_same] at ha; cases ha
   · rw [Heap.upd_ne _ _ h] at ha; exact ⟨h, r, ha, .inl rfl⟩
attribute [local irreducible] csem rsem dsem seqK blockK normK finK DK RK JK BR G3 resK Spec Tok Fr CV
theorem mclone_spec (L : Linked code) (b : Nat) (l : List Nm) (H : Heap) (hM : PM H b l) (K) (hk : ∀ b' X, H b' = none → PM X b' l → Fr [] H X → K (.v (.map (some b'))) X) : Spec L.P L.ν 329 [.v (.map (some b))] H K := by
 obtain ⟨m, hp, hm⟩ := hM
 refine go_spec L code329 rfl ?_
 repeat (refine gk dkU ?_)
 refine r_mop rfl ?_
 show rsem _ _ (M ((4, .h (B false)) :: _) _) _ _
 repeat (refine gk dkU ?_)
 refine r_mop rfl ?_
 show rsem _ _ (M ((6, .h (.v (.iface clT (.map (some b))))) :: _) _) _ _
 repeat (refine gk dkU ?_)
 refine r_mop rfl (mp_cln hm fun b' X h1 h2 f1 => ?_)
 repeat (refine gk dkU ?_)
 refine r_mop rfl ⟨rfl, ?_⟩
 repeat (refine gk dkU ?_)
 exact resK_some (hk b' X h1 ⟨m, hp, h2⟩ f1)
theorem dremove_spec (L : Linked code) (b : Nat) (h : Hd) (d : Dk) (p : List UInt8) (n m : Nat) (hw : d.WF n m) (hn : n < 1048576) (hp : p.length ≤ 1048576) (H : Heap) (hD : KD H b h d)
   (K) (hk : ∀ Y h', KD Y b h' (d.remove p).1 → Own H Y (h.bs b) (h'.bs b) → K (I (d.remove p).2) Y) : Spec L.P L.ν 298 [ptr b, S p] H K := by
 unfold Dk.remove at hk
 have hlen := hw.len
 have hop := hw.op
 refine go_spec L code298 rfl ?_
 repeat (refine gk dkU ?_)
 refine bxk dkU ?_
 intro c2 X1 h2 x2 f1 _
 repeat (refine gk dkU ?_)
 refine bxk dkU ?_
 intro c3 X2 h3 x3 f2 _
 have x2a := f2.get (by simp) x2
 have fa := f1.trans f2
 have hD2 := hD.fr0 fa
 have n2 := hD.new h2
 have n3 := hD.new (f1.of_none h3)
 clear x2
 repeat (refine gk dkU ?_)
 (apply r_call; (focus rfl))
 refine asked_spec L b h d .full [p] (by simpa using hp) (by simp) X2 hD2 _ fun X4 f4 => ?_
 rw [askD_one]
 have fb := fa.trans f4
 have hD4 := hD2.fr0 f4
 have ob4 := hD4.ob
 have x2b := f4.get (by simp) x2a
 have x3b := f4.get (by simp) x3
 clear x2a x3
 repeat (refine gk dkU ?_)
 cases c1 : (d.asked p != 0)
 case true =>
   have c1' : d.asked p ≠ 0 := by simpa using c1
   rw [if_pos c1'] at hk
   repeat (refine gk (And.intro dkU c1) ?_)
   exact resK_some (hk X4 h hD4 (Own.of _ fb))
 have c1' : ¬ d.asked p ≠ 0 := by simpa using c1
 rw [if_neg c1'] at hk
 repeat (refine gk (And.intro dkU c1) ?_)
 apply r_lkpN hD4.no hw.now_sn; (focus rfl)
 repeat (refine gk dkU ?_)
 cases g2 : getN d.now p with
 | none =>
   rw [g2] at hk
   simp only [Option.isSome_none, Bool.not_false]
   repeat (refine gk dkU ?_)
   exact resK_some (hk X4 h hD4 (Own.of _ fb))
 | some x =>
   rw [g2] at hk
   simp only at hk
   simp only [Option.isSome_some, Bool.not_true]
   repeat (refine gk dkU ?_)
   obtain ⟨mm, hpm, hm⟩ := hD4.no
   refine r_mop rfl (mp_rng hm fun it X5 hit hI f5 => ?_)
   repeat (refine gk dkU ?_)
   refine c_loop (Spec_SMono L) (fun (q : List Nm) => [(2, .h (ptr c2)), (3, .h (ptr c3)), (31, .h (ptr it))]) (fun _ => []) (fun q X => MIt X it h.mn Nm.path ndV mm q ∧ Fr [] X4 X ∧ q.any (fun n => parL n.path == p) = false) (fun q => mm.length - q.length) [] ?_ ⟨hI, f5, rfl⟩ ?_
   · (refine leM ?_ ?_ ?_ <;> (repeat refine leS trivial ?_) <;> exact leE)
   rintro done X ⟨hI, hf, hany⟩
   have y2 := hf.get (by simp) x2b
   have y3 := hf.get (by simp) x3b
   repeat (refine gk dkU ?_)
   refine r_mop rfl (mp_nxt hI hI.ne (fun hpd => ?_) fun a X1 ha had hI1 f1 => ?_)
   · have hno : d.now.any (fun n => parL n.path == p) = false := by
       rw [List.any_eq_false] at hany ⊢
       exact fun y hy => hany y ((hpd.trans hpm).mem_iff.mpr hy)
     rw [hno] at hk
     simp only [Bool.false_eq_true, if_false] at hk
     have hDX := hD4.fr0 hf
     repeat (refine gk dkU ?_)
     (apply r_call; (focus rfl))
     refine step_spec L b h d (d.chg (.rm x)) (by omega) hw.fa hw.wr rfl _ X hDX (fun ops fails wrong down X hX oX K1 hk1 => ?_) _ fun Y h' hY oY => ?_
     · refine cv_fn ?_
       have z2 := oX.get n2 y2
       have z3 := oX.get n3 y3
       have hxp : x.path = p := (getN_mem g2).2
       refine go_spec L code334 rfl ?_
       repeat (refine gk dkU ?_)
       (apply r_call; (focus rfl))
       refine Spec.args (args' := [ptr b, chgV (.rm x)]) ⟨Weak.refl _, Weak.ag (bs := [.sl .no 1 [S x.path], .sl .no 1 [.v (.pointer none)]]) ⟨by rw [hxp]; exact Weak.drop _ _ _, Weak.drop _ _ _, trivial⟩ rfl, trivial⟩ ?_
       refine drename_spec L b h (d.ctr ops fails wrong down) (.rm x) hw.now_sn ⟨by simp [Chg.came], trivial⟩ (by show d.loose.length < _; omega) X hX _ fun Y hY oY => ?_
       repeat (refine gk dkU ?_)
       exact resK_some (hk1 Y h _ hY oY)
     · repeat (refine gk dkU ?_)
       exact resK_some (hk Y h' hY ((Own.of _ (fb.trans hf)).trans oY))
   have hf1 : Fr [] X4 X1 := hf.own hit f1
   have hlen := hI1.len
   rw [List.length_append, List.length_cons, List.length_nil] at hlen
   have hpa := chkP_len (hw.now_ok a (hpm.mem_iff.mp ha)).2.2
   have y2' := hf1.get (by simp) x2b
   have y3' := hf1.get (by simp) x3b
   repeat (refine gk dkU ?_)
   refine r_mop rfl (mp_ent hI1 ?_)
   repeat (refine gk dkU ?_)
   (apply r_call; (focus rfl))
   refine parent_spec L a.path (by omega) _ _ ?_
   repeat (refine gk dkU ?_)
   cases c3 : (parL a.path == p)
   case true =>
     have hyes : d.now.any (fun n => parL n.path == p) = true := List.any_eq_true.mpr ⟨a, hpm.mem_iff.mp ha, c3⟩
     rw [hyes] at hk
     simp only [if_true] at hk
     repeat (refine gk dkU ?_)
     exact resK_some (hk X1 h (hD4.fr0 hf1) (Own.of _ (fb.trans hf1)))
   repeat (refine gk dkU ?_)
   refine k_n (done ++ [a]) (by simp; omega) ⟨hI1, hf1, by rw [List.any_append, hany]; simpa using c3⟩ ?_
   (refine leM ?_ ?_ ?_ <;> (repeat refine leS trivial ?_) <;> exact leE)
end Sm
namespace Sm
open Go
theorem fs_one {H : Heap} {v : HV} {l : List Fl} (h : FS H v l) : v.one = true := by
 rcases h with ⟨rfl, _⟩ | ⟨fb, c, zs, rfl, _⟩ <;> rfl
attribute [local irreducible] csem rsem dsem seqK blockK normK finK DK RK JK BR G3 resK Spec Tok Fr CV
theorem drenames_spec (L : Linked code) (b : Nat) (h : Hd) (d : Dk) (p q : List UInt8) (n m : Nat) (hw : d.WF n m) (hn : n < 1048576) (hp : p.length ≤ 1048576) (hq : q.length ≤ 1048576) (H : Heap) (hD : KD H b h d)
   (K) (hk : ∀ Y h', KD Y b h' (d.rename p q).1 → Own H Y (h.bs b) (h'.bs b) → K (I (d.rename p q).2) Y) : Spec L.P L.ν 309 [ptr b, S p, S q] H K := by
 unfold Dk.rename at hk
 have hlen := hw.len
 have hop := hw.op
 refine go_spec L code309 rfl ?_
 repeat (refine gk dkU ?_)
 refine bxk dkU ?_
 intro c3 X1 h3 x3 f1 _
 repeat (refine gk dkU ?_)
 refine bxk dkU ?_
 intro c4 X2 h4 x4 f2 _
 have x3a := f2.get (by simp) x3
 repeat (refine gk dkU ?_)
 refine bxk dkU ?_
 intro c5 X3 h5 x5 f3 _
 have x3b := f3.get (by simp) x3a
 have x4b := f3.get (by simp) x4
 have f0 := (f1.trans f2).trans f3
 have hD3 := hD.fr0 f0
 have n3 := hD.new h3
 have n4 := hD.new (f1.of_none h4)
 have n5 := hD.new ((f1.trans f2).of_none h5)
 clear x3 x4 x3a
 repeat (refine gk dkU ?_)
 (apply r_call; (focus rfl))
 refine asked_spec L b h d .full [p, q] (by simpa using ⟨hp, hq⟩) (by simp) X3 hD3 _ fun X4 f4 => ?_
 rw [askD_two]
 have fa := f0.trans f4
 have hD4 := hD3.fr0 f4
 have ob4 := hD4.ob
 have x3c := f4.get (by simp) x3b
 have x4c := f4.get (by simp) x4b
 have x5c := f4.get (by simp) x5
 have o4 := Own.of (h.bs b) fa
 clear x3b x4b x5
 cases c1 : (d.asked p != 0)
 case true =>
   have c1' : d.asked p ≠ 0 := by simpa using c1
   rw [if_pos c1'] at hk
   rw [if_pos c1']
   repeat (refine gk (And.intro dkU c1) ?_)
   exact resK_some (hk X4 h hD4 o4)
 have c1' : ¬ d.asked p ≠ 0 := by simpa using c1
 rw [if_neg c1'] at hk
 rw [if_neg c1']
 repeat (refine gk dkU ?_)
 cases c2 : (chkP q != 0)
 case true =>
   have c2' : chkP q ≠ 0 := by simpa using c2
   rw [if_pos c2'] at hk
   repeat (refine gk (And.intro dkU c2) ?_)
   exact resK_some (hk X4 h hD4 o4)
 have c2' : ¬ chkP q ≠ 0 := by simpa using c2
 rw [if_neg c2'] at hk
 repeat (refine gk (And.intro dkU c2) ?_)
 (apply r_call; (focus rfl))
 refine dfile_spec L b h d p hw.now_sn (fun x hx => (hw.now_ok x hx).2.1) X4 hD4 _ ?_
 cases e2 : (fileD d.now p != 0)
 case true =>
   have e2' : fileD d.now p ≠ 0 := by simpa using e2
   rw [if_pos e2'] at hk
   rw [if_neg e2']
   repeat (refine gk (And.intro dkU e2) ?_)
   exact resK_some (hk X4 h hD4 o4)
 have e2' : fileD d.now p = 0 := by simpa using e2
 rw [if_neg (by simp [e2'])] at hk
 rw [if_pos e2']
 repeat (refine gk (And.intro dkU e2) ?_)
 (apply r_call; (focus rfl))
 refine dparent_spec L b h d q hq hw.now_sn X4 hD4 _ ?_
 repeat (refine gk dkU ?_)
 cases c3' : (parD d.now q != 0)
 case true =>
   have c3'' : parD d.now q ≠ 0 := by simpa using c3'
   rw [if_pos c3''] at hk
   repeat (refine gk (And.intro dkU c3') ?_)
   exact resK_some (hk X4 h hD4 o4)
 have c3'' : ¬ parD d.now q ≠ 0 := by simpa using c3'
 rw [if_neg c3''] at hk
 repeat (refine gk (And.intro dkU c3') ?_)
 apply r_lkpN hD4.no hw.now_sn; (focus rfl)
 have hdir : (getN d.now q).any (·.dir) = (if (getN d.now q).isSome then dirO (getN d.now q) else false) := by cases getN d.now q <;> rfl
 rw [hdir] at hk
 repeat (refine gk dkU ?_)
 cases e3 : (getN d.now q).isSome && dirO (getN d.now q)
 case true =>
   rw [Bool.and_eq_true] at e3
   obtain ⟨e4, e5⟩ := e3
   rw [e4, e5] at hk ⊢
   simp only [if_true] at hk
   repeat (refine gk dkU ?_)
   exact resK_some (hk X4 h hD4 o4)
 have e4 : (if (getN d.now q).isSome then dirO (getN d.now q) else false) = false := by
   cases h1 : (getN d.now q).isSome
   · rfl
   · rw [h1] at e3; simpa using e3
 rw [e4] at hk
 simp only [Bool.false_eq_true, if_false] at hk
 obtain ⟨x, gx⟩ : ∃ x, getN d.now p = some x := by
   unfold fileD at e2'
   cases hg : getN d.now p with
   | none => rw [hg] at e2'; cases e2'
   | some x => exact ⟨x, rfl⟩
 have hxd : x.dir = false := by
   unfold fileD at e2'
   rw [gx] at e2'
   cases hxd : x.dir
   · rfl
   · simp [hxd] at e2'
 rw [gx] at hk
 simp only at hk
 have hnd : ndO (some x) = .ag [B false, I x.id] := by simp [dirO, hxd, idO]
 have hor : (getN d.now q).isSome = false ∨ ((getN d.now q).isSome = true ∧ dirO (getN d.now q) = false) := by
   cases h1 : (getN d.now q).isSome
   · exact .inl rfl
   · rw [h1] at e4; exact .inr ⟨rfl, e4⟩
 rcases hor with h1 | ⟨h1, h2⟩
 all_goals
   rw [h1]
   try rw [h2]
   repeat (refine gk dkU ?_)
   refine r_calm rfl (lkc_ev hD4.no hw.now_sn rfl rfl) ?_
   rw [gx, hnd]
   repeat (refine gk dkU ?_)
   refine r_allocH fun cx hcx => ?_
   have fn1 : Fr [] X4 (X4.upd cx (some (.obj [.v (.bool false), .v (.int .i64 0)]))) := Fr.new hcx
   generalize hX5 : X4.upd cx (some (.obj [.v (.bool false), .v (.int .i64 0)])) = X5 at fn1
   have xa : X5 cx = some (.obj [.v (.bool false), .v (.int .i64 0)]) := by rw [← hX5, Heap.upd_same]
   repeat (refine gk dkU ?_)
   refine sxk dkU ?_
   intro X6 x6 f6
   have f7 : Fr [] X4 (X6.upd cx none) := (fn1.own hcx f6).give hcx
   refine r_nil (n_n (s_v (vs_rp (t := 13) rfl x6) ?_))
   generalize X6.upd cx none = X7 at f7
   have y3 := f7.get (by simp) x3c
   have y4 := f7.get (by simp) x4c
   have y5 := f7.get (by simp) x5c
   have hD7 := hD4.fr0 f7
   repeat (refine gk dkU ?_)
   (apply r_call; (focus rfl))
   refine step_spec L b h d (d.chg (.mv x (getN d.now q) q)) (by omega) hw.fa hw.wr rfl _ X7 hD7 (fun ops fails wrong down X hX oX K1 hk1 => ?_) _ fun Y h' hY oY => ?_
   · refine cv_fn ?_
     have z3 := oX.get n3 y3
     have z4 := oX.get n4 y4
     have z5 := oX.get n5 y5
     have hxp : x.path = p := (getN_mem gx).2
     refine go_spec L code351 rfl ?_
     repeat (refine gk dkU ?_)
     (apply r_call; (focus rfl))
     refine Spec.args (args' := [ptr b, chgV (.mv x (getN d.now q) q)]) ⟨Weak.refl _, Weak.ag (bs := [.sl .no 1 [S x.path, S q], .sl .no 1 [.v (.pointer none), .rp [B false, I x.id]]]) ⟨by rw [hxp]; exact Weak.drop _ _ _, Weak.drop _ _ _, trivial⟩ rfl, trivial⟩ ?_
     refine drename_spec L b h (d.ctr ops fails wrong down) (.mv x (getN d.now q) q) hw.now_sn (mv_ok hw q) (by show d.loose.length < _; omega) X hX _ fun Y hY oY => ?_
     repeat (refine gk dkU ?_)
     exact resK_some (hk1 Y h _ hY oY)
   · repeat (refine gk dkU ?_)
     exact resK_some (hk Y h' hY ((Own.of _ (fa.trans f7)).trans oY))
end Sm
namespace Sm
open Go
attribute [local irreducible] csem rsem dsem seqK blockK normK finK DK RK JK BR G3 resK Spec Tok Fr CV
theorem dsyncdirs_spec (L : Linked code) (b : Nat) (h : Hd) (d : Dk) (n m : Nat) (hw : d.WF n m) (hn : n < 1048576) (H : Heap) (hD : KD H b h d)
   (K) (hk : ∀ Y h', KD Y b h' d.syncDirs.1 → Own H Y (h.bs b) (h'.bs b) → K (I d.syncDirs.2) Y) : Spec L.P L.ν 304 [ptr b] H K := by
 unfold Dk.syncDirs at hk
 have hop := hw.op
 refine go_spec L code304 rfl ?_
 repeat (refine gk dkU ?_)
 refine bxk dkU ?_
 intro c1 X1 h1 x1 f1 _
 have n1 := hD.new h1
 have hD1 := hD.fr0 f1
 repeat (refine gk dkU ?_)
 (apply r_call; (focus rfl))
 refine asked0_spec L b h d X1 hD1 _ fun X2 f2 => ?_
 have fa := f1.trans f2
 have hD2 := hD.fr0 fa
 have x1' := f2.get (by simp) x1
 cases c1' : d.down
 case true =>
   rw [if_pos c1'] at hk
   repeat (refine gk dkU ?_)
   exact resK_some (hk X2 h hD2 (Own.of _ fa))
 rw [if_neg (by simp [c1'])] at hk
 simp only [Bool.false_eq_true, if_false]
 repeat (refine gk dkU ?_)
 (apply r_call; (focus rfl))
 refine step_spec L b h d { d with sure := d.now, loose := [] } (by omega) hw.fa hw.wr rfl _ X2 hD2 (fun ops fails wrong down X hX oX K1 hk1 => ?_) _ fun Y h' hY oY => ?_
 · refine cv_fn ?_
   have y1 := oX.get n1 x1'
   have ob := hX.ob
   have hnd := hX.nd
   simp only [Hd.bs, List.nodup_cons, List.mem_cons, not_or] at hnd
   obtain ⟨⟨q1, q2, q3⟩, ⟨q4, q5⟩, q6, q7⟩ := hnd
   refine go_spec L code344 rfl ?_
   repeat (refine gk dkU ?_)
   (apply r_call; (focus rfl))
   refine mclone_spec L h.mn d.now X hX.no _ fun m' X1' hm' hM' g1 => ?_
   have y1' := g1.get (by simp) y1
   have ob' := g1.get (by simp) ob
   have nm := hX.new hm'
   simp only [Hd.bs, List.mem_cons, not_or] at nm
   have n1b : c1 ≠ b := fun e => n1 (by simp [Hd.bs, e])
   repeat (refine gk dkU ?_)
   refine sxk dkU ?_
   intro X3 x3 f3
   have y1'' := f3.get (by simpa using n1b) y1'
   repeat (refine gk dkU ?_)
   refine sxk dkU ?_
   intro X4 x4 f4
   have fX : Fr [b] X X4 := ((g1.mono (by simp)).trans f3).trans f4
   have fX1 : Fr [b] X1' X4 := f3.trans f4
   refine r_nil (dk_nil (d_nil (n_n (f_n rfl (resK_sub (h' := .tu []) (Weak.refl _) (sub_upd (cs := [I d.room, .v (.map (some m')), .v (.map (some h.mn)), .sl .no 2 [], h.fv, B down, I ops, I fails, B d.done, I wrong]) x4 ⟨Weak.refl _, Weak.refl _, Weak.refl _, Weak.nil' 2, Weak.refl _, Weak.refl _, Weak.refl _, Weak.refl _, Weak.refl _, Weak.refl _, trivial⟩ ?_) (hk1 _ ⟨m', h.mn, h.fv⟩ _ ?_ ?_))))))
   · have := fs_one hX.fs
     simp only [List.all_cons, this]; rfl
   · generalize hZ : X4.upd b (some (.obj [I d.room, .v (.map (some m')), .v (.map (some h.mn)), .sl .no 2 [], h.fv, B down, I ops, I fails, B d.done, I wrong])) = Z
     have fZ : Fr [b] X Z := by rw [← hZ]; exact fX.trans (Fr.set (by simp))
     have fZ1 : Fr [b] X1' Z := by rw [← hZ]; exact fX1.trans (Fr.set (by simp))
     refine ⟨by rw [← hZ, Heap.upd_same]; rfl, hM'.fr fZ1 (by simpa using nm.1), hX.no.fr fZ (by simpa using fun e => q2 e.symm), hX.fs.fr fZ (fun a ha hm => by rw [List.mem_singleton] at hm; subst hm; exact q3 ha), ?_⟩
     simp only [Hd.bs, List.nodup_cons, List.mem_cons, not_or]
     exact ⟨⟨fun e => nm.1 e.symm, q2, q3⟩, ⟨nm.2.2.1, nm.2.2.2⟩, q6, q7⟩
   · have o1 : Own X X1' (h.bs b) ((⟨m', h.mn, h.fv⟩ : Hd).bs b) := ⟨g1.mono (by simp), fun a ha => by
       simp only [Hd.bs, List.mem_cons] at ha ⊢
       rcases ha with rfl | rfl | rfl | ha
       · simp
       · exact .inr hm'
       · simp
       · simp [ha]⟩
     exact o1.trans (Own.set (cs := [b]) (fX1.trans (Fr.set (by simp))) (by simp [Hd.bs]))
 · repeat (refine gk dkU ?_)
   exact resK_some (hk Y h' hY ((Own.of _ fa).trans oY))
theorem dfault_spec (L : Linked code) (b : Nat) (h : Hd) (d : Dk) (k : Int) (H : Heap) (hD : KD H b h d)
   (K) (hk : ∀ Y, KD Y b h (d.fault k).1 → Own H Y (h.bs b) (h.bs b) → K (I (d.fault k).2) Y) : Spec L.P L.ν 311 [ptr b, I k] H K := by
 unfold Dk.fault at hk
 refine go_spec L code311 rfl ?_
 repeat (refine gk dkU ?_)
 (apply r_call; (focus rfl))
 refine asked0_spec L b h d H hD _ fun X2 f2 => ?_
 have hD2 := hD.fr0 f2
 have ob := hD2.ob
 cases c1' : d.down
 case true =>
   rw [c1'] at hk
   repeat (refine gk dkU ?_)
   exact resK_some (hk X2 hD2 (Own.of _ f2))
 rw [c1'] at hk ob
 simp only [Bool.false_eq_true, if_false] at hk ⊢
 repeat (refine gk dkU ?_)
 cases c2 : decide (k < 0)
 case true =>
   rw [if_pos (by simpa using c2)] at hk
   repeat (refine gk dkU ?_)
   exact resK_some (hk X2 hD2 (Own.of _ f2))
 rw [if_neg (by simpa using c2)] at hk
 repeat (refine gk dkU ?_)
 refine sxk dkU ?_
 intro X3 x3 f3
 repeat (refine gk dkU ?_)
 exact resK_some (hk X3 (hD2.cell f3 x3 rfl rfl rfl) ((Own.of _ f2).trans (Own.cell f3)))
theorem dops_spec (L : Linked code) (b : Nat) (h : Hd) (d : Dk) (H : Heap) (hD : KD H b h d) (K) (hk : K (I d.ops) H) : Spec L.P L.ν 315 [ptr b] H K := by
 have ob := hD.ob
 refine go_spec L code315 rfl ?_
 repeat (refine gk dkU ?_)
 exact resK_some hk
theorem file_id {d : Dk} {n m : Nat} (hw : d.WF n m) {p : List UInt8} (h : fileD d.now p = 0) : idD d.now p < d.f.length := by
 unfold fileD at h
 unfold idD
 cases hg : getN d.now p with
 | none => rw [hg] at h; cases h
 | some x =>
   rw [hg] at h
   simp only at h ⊢
   cases hxd : x.dir
   · exact (hw.now_ok x (getN_mem hg).1).2.1 hxd
   · rw [hxd] at h; cases h
theorem dread_spec (L : Linked code) (b : Nat) (h : Hd) (d : Dk) (p : List UInt8) (n m : Nat) (hw : d.WF n m) (hm : m ≤ 140737488355328) (H : Heap) (hD : KD H b h d) (K) (hk : ∀ v X, CB X v (d.read p).1 → Fr [] H X → (∀ a ∈ fvb v, H a = none) → K (.tu [v, I (d.read p).2]) X) : Spec L.P L.ν 300 [ptr b, S p] H K := by
 unfold Dk.read at hk
 refine go_spec L code300 rfl ?_
 repeat (refine gk dkU ?_)
 (apply r_call; (focus rfl))
 refine asked0_spec L b h d H hD _ fun X2 f2 => ?_
 have hD2 := hD.fr0 f2
 cases c1' : d.down
 case true =>
   rw [c1'] at hk
   simp only [if_true] at hk ⊢
   repeat (refine gk dkU ?_)
   exact resK_some (hk (.v (.slice none 0 0)) X2 (.inl ⟨rfl, rfl⟩) f2 (by simp [fvb]))
 rw [c1'] at hk
 simp only [Bool.false_eq_true, if_false] at hk ⊢
 repeat (refine gk dkU ?_)
 (apply r_call; (focus rfl))
 refine dfile_spec L b h d p hw.now_sn (fun x hx => (hw.now_ok x hx).2.1) X2 hD2 _ ?_
 cases e2 : (fileD d.now p != 0)
 case true =>
   have e2' : fileD d.now p ≠ 0 := by simpa using e2
   rw [if_pos e2'] at hk
   rw [if_neg e2']
   repeat (refine gk (And.intro dkU e2) ?_)
   exact resK_some (hk (.v (.slice none 0 0)) X2 (.inl ⟨rfl, rfl⟩) f2 (by simp [fvb]))
 have e2' : fileD d.now p = 0 := by simpa using e2
 rw [if_neg (by simp [e2'])] at hk
 rw [if_pos e2']
 have hi := file_id hw e2'
 obtain ⟨fb, c, zs, hfv, k1, k2⟩ := hD2.row hi
 rw [getD_at hi] at hk
 rw [fpV_of hfv]
 have hsz := hw.sz _ (List.getElem_mem hi)
 repeat (refine gk (And.intro dkU e2) ?_)
 apply r_load; (focus rfl); (focus exact k1); (focus exact load_fl0 hi (by simp) zs)
 repeat (refine gk dkU ?_)
 (apply r_call; (focus rfl))
 refine cloneC_spec L .no _ (by omega) X2 _ fun v X hc fX hn => ?_
 repeat (refine gk dkU ?_)
 exact resK_some (hk v X hc (f2.trans fX) fun a ha => f2.of_none (hn a ha))
theorem dnew_spec (L : Linked code) (k : Int) (H : Heap) (K) (hk : ∀ b h X, (∀ a ∈ h.bs b, H a = none) → KD X b h (newD k) → Fr [] H X → K (ptr b) X) : Spec L.P L.ν 294 [I k] H K := by
 refine go_spec L code294 rfl ?_
 repeat (refine gk dkU ?_)
 refine r_mop rfl fun m1 hm1 => ?_
 have h1 : MP (H.upd m1 (some (.mp [] 0))) m1 Nm.path ndV [] := MP.new
 have g1 : Fr [] H (H.upd m1 (some (.mp [] 0))) := Fr.new hm1
 generalize H.upd m1 (some (.mp [] 0)) = X1 at h1 g1
 repeat (refine gk dkU ?_)
 refine r_mop rfl fun m2 hm2 => ?_
 have h2 : MP (X1.upd m2 (some (.mp [] 0))) m2 Nm.path ndV [] := MP.new
 have g2 : Fr [] X1 (X1.upd m2 (some (.mp [] 0))) := Fr.new hm2
 have hm12 : m1 ≠ m2 := fun e => by obtain ⟨r, hr⟩ := h1.held; rw [e, hm2] at hr; cases hr
 generalize X1.upd m2 (some (.mp [] 0)) = X2 at h2 g2
 have h1' := h1.fr g2 (by simp)
 repeat (refine gk dkU ?_)
 refine bxk dkU ?_
 intro b X3 hb x3 f3 _
 have h1'' := h1'.fr f3 (by simp)
 have h2'' := h2.fr f3 (by simp)
 have hb1 : b ≠ m1 := fun e => by obtain ⟨r, hr⟩ := h1'.held; rw [← e, hb] at hr; cases hr
 have hb2 : b ≠ m2 := fun e => by obtain ⟨r, hr⟩ := h2.held; rw [← e, hb] at hr; cases hr
 have gH : Fr [] H X3 := (g1.trans g2).trans f3
 repeat (refine gk dkU ?_)
 refine resK_sub (h' := ptr b) (Weak.refl _) (sub_upd (cs := [I (newD k).room, .v (.map (some m1)), .v (.map (some m2)), .sl .no 2 [], .v (.slice none 0 0), B false, I 0, I (-1), B false, I (-1)]) x3 ⟨Weak.refl _, Weak.refl _, Weak.refl _, Weak.nil' 2, Weak.refl _, Weak.refl _, Weak.refl _, Weak.refl _, Weak.refl _, Weak.refl _, trivial⟩ rfl) (hk b ⟨m1, m2, .v (.slice none 0 0)⟩ _ ?_ ?_ ?_)
 · intro a ha
   simp only [Hd.bs, fvb, List.mem_cons, List.not_mem_nil, or_false] at ha
   rcases ha with rfl | rfl | rfl
   · exact (g1.trans g2).of_none hb
   · exact hm1
   · exact g1.of_none hm2
 · have fb : Fr [b] X3 (X3.upd b (some (.obj [I (newD k).room, .v (.map (some m1)), .v (.map (some m2)), .sl .no 2 [], .v (.slice none 0 0), B false, I 0, I (-1), B false, I (-1)]))) := Fr.set (by simp)
   refine ⟨Heap.upd_same _ _ _, ⟨[], List.Perm.refl _, h1''.fr fb (by simpa using hb1.symm)⟩, ⟨[], List.Perm.refl _, h2''.fr fb (by simpa using hb2.symm)⟩, .inl ⟨rfl, rfl⟩, ?_⟩
   simp [Hd.bs, fvb, hb1, hb2, hm12]
 · exact gH.own ((g1.trans g2).of_none hb) (Fr.set (by simp))
end Sm
