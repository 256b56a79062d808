/-
  J14,YR,J15,J16,J17
-/
import Derived.Test.YtegmmhldpmmkeaaGreatDoorSmJB
import Derived.Test.YtegmmhldpmmkeaaGreatDoorSmLH
set_option linter.unusedVariables false
set_option linter.unusedSimpArgs false
set_option maxRecDepth 10000
set_option maxHeartbeats 2000000
namespace Sm
open Go
def RB (X : Heap) (w : HV) (l : List UInt8) : Prop := (∃ tk, w = .sl tk 1 (l.map U)) ∨ (w = .v (.slice none 0 0) ∧ l = []) ∨ ∃ b off c cs, w = .v (.slice (some ⟨b, off, none⟩) l.length c) ∧ X b = some (.obj cs) ∧ off + l.length ≤ cs.length ∧ (cs.drop off).take l.length = l.map U
theorem RB.rdm {X : Heap} {w : HV} {l : List UInt8} (h : RB X w l) : rdm X 1 w = some (l.length, l.map U) := by
 rcases h with ⟨tk, rfl⟩ | ⟨rfl, rfl⟩ | ⟨b, off, c, cs, rfl, hX, hle, he⟩
 · exact flatUr l _ _
 · rfl
 · simp only [Sm.rdm, hX]
   rw [if_pos (by omega), Nat.mul_one, he]
theorem RB.fr {X Y : Heap} {w : HV} {l : List UInt8} (h : RB X w l) (f : Fr [] X Y) : RB Y w l := by
 rcases h with h | h | ⟨b, off, c, cs, h1, hX, h2⟩
 · exact .inl h
 · exact .inr (.inl h)
 · exact .inr (.inr ⟨b, off, c, cs, h1, f.get (by simp) hX, h2⟩)
theorem OB.rb {H X : Heap} {v : HV} {l : List UInt8} (h : OB H X v l) : RB X v l := by
 rcases h with ⟨rfl, rfl⟩ | rfl | ⟨b, c, zs, rfl, _, hX, _⟩
 · exact .inr (.inl ⟨rfl, rfl⟩)
 · exact .inl ⟨_, rfl⟩
 · exact .inr (.inr ⟨b, 0, c, _, rfl, hX, by simp, by rw [List.drop_zero, List.take_left' (by simp)]⟩)
theorem RB.sl (X : Heap) (tk : Tk) (l : List UInt8) : RB X (.sl tk 1 (l.map U)) l := .inl ⟨tk, rfl⟩
theorem RB.one {X : Heap} {w : HV} {l : List UInt8} (h : RB X w l) : w.one = true ∧ w.el = true ∧ w.ncells = 1 ∧ w.cells = [w] := by
 rcases h with ⟨tk, rfl⟩ | ⟨rfl, rfl⟩ | ⟨b, off, c, cs, rfl, _⟩ <;> exact ⟨rfl, rfl, rfl, rfl⟩
theorem r_lenR {S' : SpecT} {sl : List (Nat × EV)} {bx : List (Nat × List HV)} {H : Heap} {K : Env → Heap → Prop} {os : List SOper} {d : Nat} {x : Opd} {w : HV} {l : List UInt8}
   (hx : (M sl bx).hv x = some w) (hr : RB H w l) (h : rsem S' os (M ((d, .h (I l.length)) :: sl) bx) H K) : rsem S' (⟨some d, .len x, none⟩ :: os) (M sl bx) H K := by
 refine r_calm rfl ?_ h
 rcases hr with ⟨tk, rfl⟩ | ⟨rfl, rfl⟩ | ⟨b, off, c, cs, rfl, _⟩
 · simp only [SOp.ev, hx, List.length_map]
 · simp only [SOp.ev, hx]; rfl
 · simp only [SOp.ev, hx]
def RBs (X : Heap) : List HV → List (List UInt8) → Prop
 | [], [] => True
 | w :: ws, l :: ls => RB X w l ∧ RBs X ws ls
 | _, _ => False
theorem RBs.len {X : Heap} : ∀ {ws : List HV} {ls : List (List UInt8)}, RBs X ws ls → ws.length = ls.length
 | [], [], _ => rfl
 | _ :: _, _ :: _, h => by rw [List.length_cons, List.length_cons, h.2.len]
 | [], _ :: _, h => h.elim
 | _ :: _, [], h => h.elim
theorem RBs.fr {X Y : Heap} (f : Fr [] X Y) : ∀ {ws : List HV} {ls : List (List UInt8)}, RBs X ws ls → RBs Y ws ls
 | [], [], _ => trivial
 | _ :: _, _ :: _, h => ⟨h.1.fr f, RBs.fr f h.2⟩
 | [], _ :: _, h => h.elim
 | _ :: _, [], h => h.elim
theorem RBs.get {X : Heap} : ∀ {ws : List HV} {ls : List (List UInt8)} (h : RBs X ws ls) {i : Nat} (hi : i < ws.length) (hi2 : i < ls.length), RB X ws[i] ls[i]
 | _ :: _, _ :: _, h, 0, _, _ => h.1
 | _ :: ws, _ :: ls, h, i + 1, hi, hi2 => RBs.get h.2 (by simpa using hi) (by simpa using hi2)
 | [], _, _, i, hi, _ => by simp at hi
 | _ :: _, [], h, _, _, _ => h.elim
theorem r_capN {S' : SpecT} {sl : List (Nat × EV)} {bx : List (Nat × List HV)} {H : Heap} {K : Env → Heap → Prop} {os : List SOper} {d : Nat} {x : Opd} {A : Option Addr} {n c : Nat}
   (hx : (M sl bx).hvs [x] = some [.v (.slice A n c)]) (h : rsem S' os (M ((d, .h (I c)) :: sl) bx) H K) : rsem S' (⟨some d, .nd .cap [x], none⟩ :: os) (M sl bx) H K := by
 rw [rsem_cons]
 simp only [SOp.step, hx, ndK]
 rw [rK_app, M_put]; exact h
theorem r_appzN {S' : SpecT} {sl : List (Nat × EV)} {bx : List (Nat × List HV)} {H : Heap} {K : Env → Heap → Prop} {os : List SOper} {d : Nat} {x y : Opd} {k : Nat}
   (hx : (M sl bx).hvs [x, y] = some [.v (.slice none 0 0), I k]) (h0 : 0 < k) (hk : k ≤ 140737488355328)
   (h : ∀ b c zs X, H b = none → k ≤ c → c ≤ maxLen → zs.length = c → X b = some (.obj zs) → Fr [] H X → rsem S' os (M ((d, .h (.v (.slice (some ⟨b, 0, none⟩) k c))) :: sl) bx) X K) :
   rsem S' (⟨some d, .hop (.appz 1 1 [.v (.int .u8 0)]) [x, y], none⟩ :: os) (M sl bx) H K := by
 rw [rsem_cons]
 simp only [SOp.step, hx, hopK]
 refine ⟨by omega, rfl, by rw [Int.toNat_natCast]; omega, fun b c zs hb h1 h2 h3 h4 => ?_⟩
 rw [Int.toNat_natCast] at *
 rw [rK_app, M_put]
 exact h b c _ _ hb h1 h2 (by rw [repl1, List.length_append, List.length_replicate, h3]; omega) (Heap.upd_same _ _ _) (Fr.new hb)
theorem r_takeB {S' : SpecT} {sl : List (Nat × EV)} {bx : List (Nat × List HV)} {H : Heap} {K : Env → Heap → Prop} {os : List SOper} {d : Nat} {x : Opd} {hi : Option Opd} {tk : Tk} {l : List UInt8} {h : Nat}
   (hx : (M sl bx).hv x = some (.sl tk 1 (l.map U))) (h2 : bnd (M sl bx) (l.map U).length hi = some (h : Int)) (hhe : h ≤ l.length)
   (hk : ∀ tk', rsem S' os (M ((d, .h (.sl tk' 1 ((l.take h).map U))) :: sl) bx) H K) :
   rsem S' (⟨some d, .slc 1 x none hi none, none⟩ :: os) (M sl bx) H K :=
 r_slcS (l := 0) hx rfl h2 (by omega) (by simpa using hhe) fun tk' => by rw [List.drop_zero, Nat.sub_zero, ← List.map_take]; exact hk tk'
theorem r_dropB {S' : SpecT} {sl : List (Nat × EV)} {bx : List (Nat × List HV)} {H : Heap} {K : Env → Heap → Prop} {os : List SOper} {d : Nat} {x : Opd} {lo : Option Opd} {tk : Tk} {l : List UInt8} {h : Nat}
   (hx : (M sl bx).hv x = some (.sl tk 1 (l.map U))) (h1 : bnd (M sl bx) 0 lo = some (h : Int)) (hhe : h ≤ l.length)
   (hk : ∀ tk', rsem S' os (M ((d, .h (.sl tk' 1 ((l.drop h).map U))) :: sl) bx) H K) :
   rsem S' (⟨some d, .slc 1 x lo none none, none⟩ :: os) (M sl bx) H K :=
 r_slcS (h := (l.map U).length) hx h1 rfl (by simpa using hhe) (by omega) fun tk' => by rw [List.length_map, ← List.map_drop, List.take_of_length_le (by simp)]; exact hk tk'
theorem r_midB {S' : SpecT} {sl : List (Nat × EV)} {bx : List (Nat × List HV)} {H : Heap} {K : Env → Heap → Prop} {os : List SOper} {d : Nat} {x : Opd} {lo hi : Option Opd} {tk : Tk} {l : List UInt8} {a h : Nat}
   (hx : (M sl bx).hv x = some (.sl tk 1 (l.map U))) (h1 : bnd (M sl bx) 0 lo = some (a : Int)) (h2 : bnd (M sl bx) (l.map U).length hi = some (h : Int)) (hah : a ≤ h) (hhe : h ≤ l.length)
   (hk : ∀ tk', rsem S' os (M ((d, .h (.sl tk' 1 (((l.drop a).take (h - a)).map U))) :: sl) bx) H K) :
   rsem S' (⟨some d, .slc 1 x lo hi none, none⟩ :: os) (M sl bx) H K :=
 r_slcS hx h1 h2 hah (by simpa using hhe) fun tk' => by rw [← List.map_drop, ← List.map_take]; exact hk tk'
theorem take_flat {ls : List (List UInt8)} {q : Nat} (h : q < ls.length) : (ls.take (q + 1)).flatten = (ls.take q).flatten ++ ls[q] := by
 rw [List.take_succ_eq_append_getElem h, List.flatten_append, List.flatten_cons, List.flatten_nil, List.append_nil]
theorem take_flat_le (ls : List (List UInt8)) (q : Nat) : (ls.take q).flatten.length ≤ ls.flatten.length := by
 conv => rhs; rw [← List.take_append_drop q ls, List.flatten_append, List.length_append]
 omega
attribute [local irreducible] csem rsem dsem seqK blockK normK finK DK RK JK BR G3 resK Spec Tok Fr CV
theorem grow_spec (L : Linked code) (n : Nat) (hn : n ≤ 140737488355328) (H : Heap) (K : HV → Heap → Prop) (hk : ∀ v X, OB H X v [] → ob2 v → Fr [] H X → K v X) : Spec L.P L.ν 479 [.v (.slice none 0 0), I n] H K := by
 refine go_spec L code479 rfl ?_
 repeat (refine gk trivial ?_)
 rw [decide_eq_false (show ¬ (n : Int) < 0 by omega)]
 repeat (refine gk trivial ?_)
 refine r_capN rfl ?_
 repeat (refine gk trivial ?_)
 cases c1 : decide (0 < (n : Int) - (0 - 0))
 · repeat (refine gk trivial ?_)
   exact resK_some (hk _ _ (OB.nil _ _) trivial (Fr.refl _ _))
 · have hn0 : 0 < n := by have := of_decide_eq_true c1; omega
   repeat (refine gk trivial ?_)
   refine r_capN rfl ?_
   repeat (refine gk trivial ?_)
   rw [show (n : Int) - (((0 : Nat) : Int) - ((0 : Nat) : Int)) = (n : Int) by omega]
   refine r_appzN rfl hn0 hn fun b c zs X hb h1 h2 h3 hX fX => ?_
   repeat (refine gk trivial ?_)
   refine r_slcO0 rfl rfl ⟨by omega, by omega⟩ ?_
   repeat (refine gk trivial ?_)
   refine resK_some (hk _ _ (.inr (.inr ⟨b, c, zs, rfl, hb, hX, by simpa using h3, h2⟩)) trivial fX)
theorem concat_spec (L : Linked code) (tk : Tk) (ws : List HV) (ls : List (List UInt8)) (hn : ws.length ≤ 1048576) (hs : ls.flatten.length ≤ 1099511627776) (H : Heap) (K : HV → Heap → Prop) (hr : RBs H ws ls) (hk : ∀ v X, OB H X v ls.flatten → Fr [] H X → K v X) : Spec L.P L.ν 465 [.sl tk 1 ws] H K := by
 have hlen := hr.len
 refine go_spec L code465 rfl ?_
 repeat (refine gk trivial ?_)
 refine c_loop (Spec_SMono L) (fun (q : Nat) => [(0, .h (.sl tk 1 ws)), (3, .h (I (ls.take q).flatten.length)), (9, .h (.sl tk 1 ws)), (10, .h (I ws.length)), (11, .h (I q))]) (fun _ => []) (fun q X => X = H ∧ q ≤ ws.length) (fun q => ws.length - q) 0 ?_ ⟨rfl, by omega⟩ ?_
 · (refine leM ?_ ?_ ?_ <;> (repeat refine leS trivial ?_) <;> exact leE)
 rintro q X ⟨rfl, hq⟩
 repeat (refine gk trivial ?_)
 (refine ct trivial ?_ ?_ <;> intro h)
 · have hq' : q < ws.length := by have := of_decide_eq_true h; omega
   have hg := hr.get hq' (by omega)
   have ho := hg.one
   have hle := take_flat_le ls (q + 1)
   rw [take_flat (by omega), List.length_append] at hle
   repeat (refine gk trivial ?_)
   apply r_idx (j := q); (focus rfl); (focus rfl); (focus rfl); (focus exact List.getElem?_eq_getElem hq'); (focus exact ho.2.2.2)
   repeat (refine gk trivial ?_)
   refine r_lenR rfl hg ?_
   repeat (refine gk trivial ?_)
   have e9 : (((ls.take q).flatten.length : Nat) : Int) + (ls[q].length : Nat) = ((ls.take (q + 1)).flatten.length : Nat) := by rw [take_flat (by omega), List.length_append]; omega
   rw [e9, decide_eq_false (show ¬ (((ls.take (q + 1)).flatten.length : Nat) : Int) < 0 by omega)]
   repeat (refine gk trivial ?_)
   refine k_n (q + 1) (by omega) ⟨rfl, hq'⟩ ?_
   (refine leM ?_ ?_ ?_ <;> (repeat refine leS trivial ?_) <;> exact leE)
 · have hqe : q = ws.length := by have := of_decide_eq_false h; omega
   subst hqe
   repeat (refine gk trivial ?_)
   have e1 : ls.take ws.length = ls := by rw [hlen, List.take_length]
   rw [e1]
   (apply r_call; (focus rfl))
   refine grow_spec L _ (by omega) X _ fun v Y hO h2 fY => ?_
   repeat (refine gk trivial ?_)
   refine c_loop (Spec_SMono L) (fun (q : Nat × HV) => [(0, .h (.sl tk 1 ws)), (6, .h q.2), (25, .h (.sl tk 1 ws)), (26, .h (I ws.length)), (27, .h (I q.1))]) (fun _ => []) (fun q Y => OB X Y q.2 (ls.take q.1).flatten ∧ Fr [] X Y ∧ q.1 ≤ ws.length) (fun q => ws.length - q.1) (0, v) ?_ ⟨by simpa using hO, fY, by omega⟩ ?_
   · (refine leM ?_ ?_ ?_ <;> (repeat refine leS trivial ?_) <;> exact leE)
   rintro ⟨q, u⟩ Z ⟨hO, fZ, hq⟩
   dsimp only at hO hq ⊢
   repeat (refine gk trivial ?_)
   (refine ct trivial ?_ ?_ <;> intro h)
   · have hq' : q < ws.length := by have := of_decide_eq_true h; omega
     have hg := (hr.get hq' (by omega)).fr fZ
     have ho := hg.one
     have hle := take_flat_le ls (q + 1)
     rw [take_flat (by omega), List.length_append] at hle
     repeat (refine gk trivial ?_)
     apply r_idx (j := q); (focus rfl); (focus rfl); (focus rfl); (focus exact List.getElem?_eq_getElem hq'); (focus exact ho.2.2.2)
     repeat (refine gk trivial ?_)
     refine r_appV hO fZ rfl rfl hg.rdm (by omega) fun w W hO2 fW _ => ?_
     rw [← take_flat (by omega)] at hO2
     repeat (refine gk trivial ?_)
     refine k_n (q + 1, w) (by dsimp only; omega) ⟨hO2, fW, hq'⟩ ?_
     (refine leM ?_ ?_ ?_ <;> (repeat refine leS trivial ?_) <;> exact leE)
   · have hqe : q = ws.length := by have := of_decide_eq_false h; omega
     subst hqe
     rw [e1] at hO
     repeat (refine gk trivial ?_)
     exact resK_some (hk _ _ hO fZ)
theorem join_spec (L : Linked code) (tk : Tk) (ws : List HV) (ls : List (List UInt8)) (hn : ws.length ≤ 1048576) (hs : ls.flatten.length ≤ 1099511627776) (H : Heap) (K : HV → Heap → Prop) (hr : RBs H ws ls) (hk : ∀ v X, OB H X v ls.flatten → Fr [] H X → K v X) : Spec L.P L.ν 447 [.sl tk 1 ws] H K := by
 refine go_spec L code447 rfl ?_
 repeat (refine gk trivial ?_)
 (apply r_call; (focus rfl))
 refine concat_spec L tk ws ls hn hs H _ hr fun v X hO fX => ?_
 repeat (refine gk trivial ?_)
 exact resK_some (hk _ _ hO fX)
theorem lnum_spec (L : Linked code) (n : Int) (h0 : 0 ≤ n) (hn : n < 4611686018427387904) : PureF L 445 [I n] (.sl .full 1 ((putV n).map U)) := by
 intro H K hk
 refine go_spec L code445 rfl ?_
 repeat (refine gk trivial ?_)
 (apply r_call; (focus rfl))
 refine vput_spec L n h0 hn H _ fun X fX => ?_
 repeat (refine gk trivial ?_)
 exact resK_some (hk _ fX)
theorem lenV_le (n : Int) : 0 ≤ lenV n ∧ lenV n ≤ 8 := by unfold lenV; repeat (first | omega | split)
theorem putV_le (n : Int) : (putV n).length ≤ 8 := by
 unfold putV
 rw [encV_len]
 have := lenV_le n
 omega
def textB (s : List UInt8) : List UInt8 := putV s.length ++ s
theorem r_appT {S' : SpecT} {sl : List (Nat × EV)} {bx : List (Nat × List HV)} {H0 H : Heap} {K : Env → Heap → Prop} {os : List SOper} {d : Nat} {x y : Opd} {w : HV} {l r : List UInt8} {tk : Tk}
   (hf : Fr [] H0 H) (hx : (M sl bx).hv x = some (.sl tk 1 (l.map U))) (htk : tk = .full) (hy : (M sl bx).hv y = some w) (hr : rdm H 1 w = some (r.length, r.map U)) (hl : l.length + r.length ≤ 140737488355328)
   (h : ∀ v' X, OB H0 X v' (l ++ r) → Fr [] H0 X → (r ≠ [] → ob2 v') → rsem S' os (M ((d, .h v') :: sl) bx) X K) :
   rsem S' (⟨some d, .app 1 1 x y, none⟩ :: os) (M sl bx) H K := by
 subst htk
 exact r_appV (.inr (.inl rfl)) hf hx hy hr hl fun v' X a b c => h v' X a b fun hne => c (.inr hne)
theorem ltext_spec (L : Linked code) (s : List UInt8) (hs : s.length ≤ 1099511627776) : PureF L 446 [S s] (.sl .no 1 ((textB s).map U)) := by
 intro H K hk
 refine Spec.give ?_
 refine go_spec L code446 rfl ?_
 repeat (refine gk trivial ?_)
 (apply r_call; (focus rfl))
 refine lnum_spec L s.length (by omega) (by omega) H _ fun X fX => ?_
 repeat (refine gk trivial ?_)
 refine r_appT fX rfl rfl rfl (rdm_S s X) (by have := putV_le (s.length : Int); omega) fun v Y hO fY _ => ?_
 repeat (refine gk trivial ?_)
 exact resK_some (hO.give fY fun Z fZ => hk Z fZ)
theorem M_dup {sl : List (Nat × EV)} {bx : List (Nat × List HV)} {t : Nat} {x y : EV} : M ((t, x) :: (t, y) :: sl) bx = M ((t, x) :: sl) bx := by
 have : ∀ s, (M ((t, x) :: (t, y) :: sl) bx).get s = (M ((t, x) :: sl) bx).get s := fun s => by
   rw [M_cons_get, M_cons_get, M_cons_get]
   split <;> rfl
 have h2 : lq ((t, x) :: (t, y) :: sl) = lq ((t, x) :: sl) := funext this
 simp only [M, h2]
theorem OB.vs {H X : Heap} {v : HV} {l : List UInt8} {sl sl' : List (Nat × EV)} {bx bx' : List (Nat × List HV)} {t : Nat} (h : OB H X v l) (f : Fr [] H X) (hx : (M sl bx).get t = some (.h v))
   (h1 : leL sl' (M sl bx)) (h2 : leB bx' (M sl bx)) (h3 : lpOk bx' sl') :
   ∃ Y, VS (M sl bx) X (M ((t, .h (.sl .no 1 (l.map U))) :: sl') bx') Y ∧ Fr [] H Y := by
 have hp : ∀ w : HV, lpOk bx' ((t, .h w) :: sl') := fun w => h3
 have hw : ∀ {w : HV}, Weak v w → VS (M sl bx) X (M ((t, .h w) :: sl') bx') X := fun {w} hw => VS.le (leM (leL_w hx hw h1) h2 (hp w))
 rcases h with ⟨rfl, rfl⟩ | rfl | ⟨b, c, zs, rfl, hb, hX, hc, hm⟩
 · exact ⟨X, hw (Weak.nil' 1), f⟩
 · exact ⟨X, hw (Weak.drop _ _ _), f⟩
 · have h9 := vs_sl (sl := (t, .h (.v (.slice (some ⟨b, 0, none⟩) l.length c))) :: sl') (bx := bx') (t := t) (sz := 1) (es := l.map U) (by rw [M_cons_get, if_pos rfl]) hX (by rw [flatU1, Nat.mul_one, List.take_left' (by simp)]) (by simp) (by simp) (by omega) hm (U_el l) (U_nc l)
   rw [M_dup] at h9
   exact ⟨_, (hw (Weak.refl _)).trans h9, f.give hb⟩
theorem cloneO_spec (L : Linked code) (tk : Tk) (l : List UInt8) (hl : l.length ≤ 1099511627776) (H : Heap) (K : HV → Heap → Prop) (hk : ∀ v X, OB H X v l → Fr [] H X → K v X) : Spec L.P L.ν 186 [.sl tk 1 (l.map U)] H K := by
 refine go_spec L code186 rfl ?_
 repeat (refine gk trivial ?_)
 refine r_isnil rfl fun t ht => ?_
 cases t
 · repeat (refine gk trivial ?_)
   refine r_appT (l := []) (Fr.refl _ _) rfl rfl rfl (flatUr l _ _) (by simp; omega) fun v X hO fX _ => ?_
   repeat (refine gk trivial ?_)
   exact resK_some (hk _ _ hO fX)
 · have hl : l = [] := by simpa using ht rfl
   subst hl
   repeat (refine gk trivial ?_)
   exact resK_some (hk _ _ (OB.nil _ _) (Fr.refl _ _))
def crcV (l : List UInt8) : Nat := 4294967295 ^^^ crcR 4294967295 l
theorem crcV_lt (l : List UInt8) : crcV l < 4294967296 := Nat.xor_lt_two_pow (n := 32) (by omega) (crcR_lt _ (by omega))
theorem le4_len (c : Nat) : (le4 c).length = 4 := rfl
def sealB (l : List UInt8) : List UInt8 := l ++ le4 (crcV l)
theorem seal_spec (L : Linked code) (tk : Tk) (l : List UInt8) (hl : l.length ≤ 1048576) : PureF L 448 [.sl tk 1 (l.map U)] (.sl .no 1 ((sealB l).map U)) := by
 intro H K hk
 refine Spec.give ?_
 refine go_spec L code448 rfl ?_
 repeat (refine gk trivial ?_)
 (apply r_call; (focus rfl))
 refine cloneO_spec L _ l (by omega) H _ fun v X hO fX => ?_
 repeat (refine gk trivial ?_)
 (apply r_call; (focus rfl))
 refine of_spec L _ l hl X _ fun Y fY => ?_
 repeat (refine gk trivial ?_)
 (apply r_call; (focus rfl))
 refine bytes_spec L (crcV l) (crcV_lt l) Y _ fun Z fZ => ?_
 repeat (refine gk trivial ?_)
 refine r_appV (hO.fr (fY.trans fZ)) (fX.trans (fY.trans fZ)) rfl rfl (flatUr _ _ _) (by rw [le4_len]; omega) fun w W hO2 fW _ => ?_
 repeat (refine gk trivial ?_)
 exact resK_some (hO2.give fW fun _ f => hk _ f)
def openB (l : List UInt8) : List UInt8 × Int := if l.length < 4 then ([], 3) else if le4 (crcV (l.take (l.length - 4))) == l.drop (l.length - 4) then (l.take (l.length - 4), 0) else ([], 14)
theorem openB_lt {l : List UInt8} (h : l.length < 4) : openB l = ([], 3) := by rw [openB, if_pos h]
theorem openB_ge {l : List UInt8} (h : ¬ l.length < 4) : openB l = if le4 (crcV (l.take (l.length - 4))) == l.drop (l.length - 4) then (l.take (l.length - 4), 0) else ([], 14) := by rw [openB, if_neg h]
theorem open_spec (L : Linked code) (tk : Tk) (l : List UInt8) (hl : l.length ≤ 1048576) : PureF L 443 [.sl tk 1 (l.map U)] (.tu [.sl .no 1 ((openB l).1.map U), I (openB l).2]) := by
 intro H K hk
 refine go_spec L code443 rfl ?_
 repeat (refine gk trivial ?_)
 cases c1 : decide ((l.length : Int) - 4 < 0)
 · have h4 : ¬ l.length < 4 := by have := of_decide_eq_false c1; omega
   rw [openB_ge h4] at hk
   rw [show (l.length : Int) - 4 = ((l.length - 4 : Nat) : Int) by omega]
   have ht : (l.take (l.length - 4)).length ≤ 1048576 := by rw [List.length_take]; omega
   repeat (refine gk trivial ?_)
   refine r_takeB rfl rfl (by omega) fun t1 => ?_
   repeat (refine gk trivial ?_)
   refine r_dropB rfl rfl (by omega) fun t2 => ?_
   (apply r_call; (focus rfl))
   refine of_spec L _ _ ht H _ fun X fX => ?_
   repeat (refine gk trivial ?_)
   (apply r_call; (focus rfl))
   refine bytes_spec L _ (crcV_lt (l.take (l.length - 4))) X _ fun Y fY => ?_
   repeat (refine gk trivial ?_)
   (apply r_call; (focus rfl))
   refine beq_spec L .full t2 (le4 (crcV (l.take (l.length - 4)))) (l.drop (l.length - 4)) Y _ ?_
   cases c2 : le4 (crcV (l.take (l.length - 4))) == l.drop (l.length - 4)
   · rw [c2] at hk
     repeat (refine gk trivial ?_)
     exact resK_weak (Weak.tu (show WeakL [.v (.slice none 0 0), I 14] [.sl .no 1 (([] : List UInt8).map U), I 14] from ⟨Weak.nil' 1, Weak.refl _, trivial⟩)) (hk _ (fX.trans fY))
   · rw [c2] at hk
     repeat (refine gk trivial ?_)
     refine r_takeB rfl rfl (by omega) fun t3 => ?_
     repeat (refine gk trivial ?_)
     (apply r_call; (focus rfl))
     refine cloneB_spec L _ (l.take (l.length - 4)) (by omega) Y _ fun Z fZ => ?_
     repeat (refine gk trivial ?_)
     exact resK_some (hk _ (fX.trans (fY.trans fZ)))
 · have h4 : l.length < 4 := by have := of_decide_eq_true c1; omega
   rw [openB_lt h4] at hk
   repeat (refine gk trivial ?_)
   exact resK_weak (Weak.tu (show WeakL [.v (.slice none 0 0), I 3] [.sl .no 1 (([] : List UInt8).map U), I 3] from ⟨Weak.nil' 1, Weak.refl _, trivial⟩)) (hk _ (Fr.refl _ _))
end Sm
namespace Sm
open Go
def SOp.isB : SOp → Bool
 | .build _ _ => true
 | .load true _ _ => true
 | _ => false
theorem r_calmN {S' : SpecT} {sl : List (Nat × EV)} {bx : List (Nat × List HV)} {H : Heap} {K : Env → Heap → Prop} {os : List SOper} {d : Nat} {o : SOp} {x : EV} (hc : o.calm = true) (hb : o.isB = false) (hv : o.ev (M sl bx) H = some x) (h : rsem S' os (M ((d, x) :: sl) bx) H K) : rsem S' (⟨some d, o, none⟩ :: os) (M sl bx) H K := r_calm hc hv h
theorem gr {r p q : Prop} (c : r) (k : q) (h : r → Hold q → p := by (intro c k; (first | refine c_seq ?_ | refine c_reg ?_ | refine c_block ?_ | (apply c_dplain (Spec_SMono _); (focus rfl); (focus (simp only [List.map_cons, List.map_nil] <;> rfl))) | refine c_dreg rfl ?_ | refine r_nil ?_ | refine n_n ?_ | refine s_n ?_ | refine s_r ?_ | refine s_e ?_ | (apply r_loadb (agg := false); (focus rfl); (focus rfl); (focus (simp only [c, nf, Nat.reduceAdd, Nat.reduceLeDiff] <;> rfl))) | (apply r_loadr (agg := false); (focus rfl); (focus (simp only [c, nf, Nat.reduceAdd, Nat.reduceLeDiff] <;> rfl))) | (apply r_load (agg := false); (focus rfl); (focus (first | assumption | (simp only [Heap.upd_same]; rfl) | (simp only [Heap.upd_same, Heap.upd_ne, ne_eq, not_false_eq_true, *] <;> rfl))); (focus (simp only [c, nf, Nat.reduceAdd, Nat.reduceLeDiff] <;> rfl))) | (apply r_len; (focus rfl); (focus (first | (simp only [List.length_map, List.length_append, List.length_cons, List.length_nil, Nat.zero_add, Nat.reduceAdd] <;> rfl) | rfl))) | (apply r_idx; (focus rfl); (focus rfl); (focus (first | rfl | omega)); (focus (first | exact get_enc (by omega) | assumption | rfl | (simp only [get_enc, *] <;> rfl))); (focus (simp only [c, nf, Nat.reduceAdd, Nat.reduceLeDiff] <;> rfl))) | (apply r_slen; (focus rfl); (focus (first | (simp only [List.length_map, List.length_append, List.length_cons, List.length_nil, Nat.zero_add, Nat.reduceAdd] <;> rfl) | rfl))) | (apply r_sidx; (focus rfl); (focus rfl); (focus (first | rfl | omega)); (focus (first | assumption | exact List.getElem?_eq_getElem (by omega)))) | (apply r_ssl; (focus rfl); (focus rfl); (focus rfl); (focus (omega))) | (apply r_seq; (focus rfl); (focus rfl)) | (apply r_sne; (focus rfl); (focus rfl)) | (apply r_slt; (focus rfl); (focus rfl)) | (apply r_sgt; (focus rfl); (focus rfl)) | (apply r_ixb; (focus rfl)) | (apply r_cntb; (focus rfl)) | (apply r_b2s; (focus rfl)) | (apply r_b2s0; (focus rfl)) | (apply r_add; (focus rfl); (focus rfl); (focus (omega))) | (apply r_sub; (focus rfl); (focus rfl); (focus (omega))) | (apply r_mul; (focus rfl); (focus rfl); (focus (omega))) | (apply r_conv; (focus rfl); (focus (omega))) | (apply r_rem; (focus rfl); (focus rfl); (focus (omega))) | (apply r_max; (focus rfl); (focus rfl)) | (apply r_min; (focus rfl); (focus rfl)) | (apply r_eq; (focus rfl); (focus rfl); (focus (simp only [eqv, eqs, eqL, Option.isNone_some, Option.isNone_none, if_true, ite_true, beq_self_eq_true, Bool.and_true, Bool.true_and, reduceCtorEq] <;> rfl))) | (apply r_ne; (focus rfl); (focus rfl); (focus (simp only [eqv, eqs, eqL, Option.isNone_some, Option.isNone_none, if_true, ite_true, beq_self_eq_true, Bool.and_true, Bool.true_and, reduceCtorEq] <;> rfl)); (focus (simp only [Bool.not_true, Bool.not_false] <;> rfl))) | (apply r_not; (focus rfl); (focus (simp only [Bool.not_true, Bool.not_false] <;> rfl))) | (apply r_cmp; (focus rfl); (focus rfl); (focus (simp only [intOp, Int.cast_ofNat_Int, ite_true, if_true, c, ge_le, gt_lt, beq_self_eq_true, bne_self_eq_false, Int.reduceBEq, Int.reduceBNe, Int.reduceLT, Int.reduceLE, Int.reduceGT, Int.reduceGE, decide_true, decide_false] <;> rfl))) | (apply r_isnil0; (focus rfl); (focus (simp only [Bool.not_true, Bool.not_false] <;> rfl))) | (apply r_calmN; (focus rfl); (focus rfl); (focus rfl)) | (apply r_guardu; (focus rfl)) | (apply r_guard; (focus rfl); (focus (simp only [Bool.not_true, Bool.not_false] <;> rfl)); with_reducible (first | refine G3_tt ?_ | refine G3_ff ?_ | refine G3_tf ?_ | refine G3_ft ?_)) | (apply c_cond; (focus rfl); with_reducible (first | refine BR_true ?_ | refine BR_false ?_)) | (apply r_alloc; (focus rfl)) | (apply r_box; (focus rfl); (focus (simp only [c, nf, Nat.reduceAdd, Nat.reduceLeDiff] <;> rfl)); (focus (simp only [c, nf, Nat.reduceAdd, Nat.reduceLeDiff] <;> rfl)); (focus (simp only [c, nf, Nat.reduceAdd, Nat.reduceLeDiff] <;> rfl)); (focus rfl)) | (apply r_bslice; (focus rfl); (focus (simp only [c, nf, Nat.reduceAdd, Nat.reduceLeDiff] <;> rfl)); (focus (simp only [c, nf, Nat.reduceAdd, Nat.reduceLeDiff] <;> rfl))) | (apply d_cons; (focus rfl)) | refine dk_nil ?_ | (apply dk_cons; (focus rfl); (focus (first | exact rc_ev rfl rfl | exact rc_evg rfl rfl | (apply rc_load; (focus rfl); (focus (first | assumption | (simp only [Heap.upd_same]; rfl) | (simp only [Heap.upd_same, Heap.upd_ne, ne_eq, not_false_eq_true, *] <;> rfl))); (focus (simp only [c, nf, Nat.reduceAdd, Nat.reduceLeDiff] <;> rfl)); (focus rfl)) | (intro h; cases h)))) | refine d_nil ?_ | refine b_n ?_ | refine b_r ?_ | refine b_e ?_ | (apply b_x; (focus rfl)) | refine k_e ?_ | refine k_r ?_ | refine j_e ?_ | refine j_r ?_ | refine c_skip ?_ | refine c_exit ?_ | refine c_ret ?_ | (apply f_n; (focus rfl)) | (apply f_r; (focus rfl))); exact k.out)) : p := h c ⟨k⟩
theorem gs {r p q : Prop} (c : r) (k : q) (h : r → Hold q → p := by (intro c k; (first | refine c_seqR ?_ | refine c_seqD ?_ | refine c_seqB ?_ | refine c_reg ?_ | refine c_block ?_ | (apply c_dplain (Spec_SMono _); (focus rfl); (focus (simp only [List.map_cons, List.map_nil] <;> rfl))) | refine c_dreg rfl ?_ | refine r_nil ?_ | refine n_n ?_ | refine s_n ?_ | refine s_r ?_ | refine s_e ?_ | (apply r_loadb (agg := false); (focus rfl); (focus rfl); (focus (simp only [c, nf, Nat.reduceAdd, Nat.reduceLeDiff] <;> rfl))) | (apply r_loadr (agg := false); (focus rfl); (focus (simp only [c, nf, Nat.reduceAdd, Nat.reduceLeDiff] <;> rfl))) | (apply r_load (agg := false); (focus rfl); (focus (first | assumption | (simp only [Heap.upd_same]; rfl) | (simp only [Heap.upd_same, Heap.upd_ne, ne_eq, not_false_eq_true, *] <;> rfl))); (focus (simp only [c, nf, Nat.reduceAdd, Nat.reduceLeDiff] <;> rfl))) | (apply r_len; (focus rfl); (focus (first | (simp only [List.length_map, List.length_append, List.length_cons, List.length_nil, Nat.zero_add, Nat.reduceAdd] <;> rfl) | rfl))) | (apply r_idx; (focus rfl); (focus rfl); (focus (first | rfl | omega)); (focus (first | exact get_enc (by omega) | assumption | rfl | (simp only [get_enc, *] <;> rfl))); (focus (simp only [c, nf, Nat.reduceAdd, Nat.reduceLeDiff] <;> rfl))) | (apply r_slen; (focus rfl); (focus (first | (simp only [List.length_map, List.length_append, List.length_cons, List.length_nil, Nat.zero_add, Nat.reduceAdd] <;> rfl) | rfl))) | (apply r_sidx; (focus rfl); (focus rfl); (focus (first | rfl | omega)); (focus (first | assumption | exact List.getElem?_eq_getElem (by omega)))) | (apply r_ssl; (focus rfl); (focus rfl); (focus rfl); (focus (omega))) | (apply r_seq; (focus rfl); (focus rfl)) | (apply r_sne; (focus rfl); (focus rfl)) | (apply r_slt; (focus rfl); (focus rfl)) | (apply r_sgt; (focus rfl); (focus rfl)) | (apply r_ixb; (focus rfl)) | (apply r_cntb; (focus rfl)) | (apply r_b2s; (focus rfl)) | (apply r_b2s0; (focus rfl)) | (apply r_add; (focus rfl); (focus rfl); (focus (omega))) | (apply r_sub; (focus rfl); (focus rfl); (focus (omega))) | (apply r_mul; (focus rfl); (focus rfl); (focus (omega))) | (apply r_conv; (focus rfl); (focus (omega))) | (apply r_rem; (focus rfl); (focus rfl); (focus (omega))) | (apply r_max; (focus rfl); (focus rfl)) | (apply r_min; (focus rfl); (focus rfl)) | (apply r_eq; (focus rfl); (focus rfl); (focus (simp only [eqv, eqs, eqL, Option.isNone_some, Option.isNone_none, if_true, ite_true, beq_self_eq_true, Bool.and_true, Bool.true_and, reduceCtorEq] <;> rfl))) | (apply r_ne; (focus rfl); (focus rfl); (focus (simp only [eqv, eqs, eqL, Option.isNone_some, Option.isNone_none, if_true, ite_true, beq_self_eq_true, Bool.and_true, Bool.true_and, reduceCtorEq] <;> rfl)); (focus (simp only [Bool.not_true, Bool.not_false] <;> rfl))) | (apply r_not; (focus rfl); (focus (simp only [Bool.not_true, Bool.not_false] <;> rfl))) | (apply r_cmp; (focus rfl); (focus rfl); (focus (simp only [intOp, Int.cast_ofNat_Int, ite_true, if_true, c, ge_le, gt_lt, beq_self_eq_true, bne_self_eq_false, Int.reduceBEq, Int.reduceBNe, Int.reduceLT, Int.reduceLE, Int.reduceGT, Int.reduceGE, decide_true, decide_false] <;> rfl))) | (apply r_isnil0; (focus rfl); (focus (simp only [Bool.not_true, Bool.not_false] <;> rfl))) | (apply r_calmN; (focus rfl); (focus rfl); (focus rfl)) | (apply r_guardu; (focus rfl)) | (apply r_guard; (focus rfl); (focus (simp only [Bool.not_true, Bool.not_false] <;> rfl)); with_reducible (first | refine G3_tt ?_ | refine G3_ff ?_ | refine G3_tf ?_ | refine G3_ft ?_)) | (apply c_cond; (focus rfl); with_reducible (first | refine BR_true ?_ | refine BR_false ?_)) | (apply r_alloc; (focus rfl)) | (apply r_box; (focus rfl); (focus (simp only [c, nf, Nat.reduceAdd, Nat.reduceLeDiff] <;> rfl)); (focus (simp only [c, nf, Nat.reduceAdd, Nat.reduceLeDiff] <;> rfl)); (focus (simp only [c, nf, Nat.reduceAdd, Nat.reduceLeDiff] <;> rfl)); (focus rfl)) | (apply r_bslice; (focus rfl); (focus (simp only [c, nf, Nat.reduceAdd, Nat.reduceLeDiff] <;> rfl)); (focus (simp only [c, nf, Nat.reduceAdd, Nat.reduceLeDiff] <;> rfl))) | (apply d_cons; (focus rfl)) | refine dk_nil ?_ | (apply dk_cons; (focus rfl); (focus (first | exact rc_ev rfl rfl | exact rc_evg rfl rfl | (apply rc_load; (focus rfl); (focus (first | assumption | (simp only [Heap.upd_same]; rfl) | (simp only [Heap.upd_same, Heap.upd_ne, ne_eq, not_false_eq_true, *] <;> rfl))); (focus (simp only [c, nf, Nat.reduceAdd, Nat.reduceLeDiff] <;> rfl)); (focus rfl)) | (intro h; cases h)))) | refine d_nil ?_ | refine b_n ?_ | refine b_r ?_ | refine b_e ?_ | (apply b_x; (focus rfl)) | refine k_e ?_ | refine k_r ?_ | refine j_e ?_ | refine j_r ?_ | refine c_skip ?_ | refine c_exit ?_ | refine c_ret ?_ | (apply f_n; (focus rfl)) | (apply f_r; (focus rfl))); exact k.out)) : p := h c ⟨k⟩
end Sm
set_option maxHeartbeats 4000000
namespace Sm
open Go
structure Rc where
 kind : UInt8
 id : Int
 path : List UInt8
 sum : List UInt8
 size : Int
 off : Int
deriving DecidableEq
structure Pt where
 id : Int
 path : List UInt8
 sum : List UInt8
 size : Int
 off : Int
deriving DecidableEq
structure Sta where
 parts : List Pt
 next : Int
deriving DecidableEq
def sumC (s : List UInt8) : List HV := [U (s.getD 0 0), U (s.getD 1 0), U (s.getD 2 0), U (s.getD 3 0), U (s.getD 4 0), U (s.getD 5 0), U (s.getD 6 0), U (s.getD 7 0), U (s.getD 8 0), U (s.getD 9 0), U (s.getD 10 0), U (s.getD 11 0), U (s.getD 12 0), U (s.getD 13 0), U (s.getD 14 0), U (s.getD 15 0), U (s.getD 16 0), U (s.getD 17 0), U (s.getD 18 0), U (s.getD 19 0), U (s.getD 20 0), U (s.getD 21 0), U (s.getD 22 0), U (s.getD 23 0), U (s.getD 24 0), U (s.getD 25 0), U (s.getD 26 0), U (s.getD 27 0), U (s.getD 28 0), U (s.getD 29 0), U (s.getD 30 0), U (s.getD 31 0)]
theorem sumC_range (s : List UInt8) : sumC s = (List.range 32).map fun i => U (s.getD i 0) := rfl
theorem sumC_eq {s : List UInt8} (h : s.length = 32) : sumC s = s.map U := by
 rw [sumC_range]
 refine List.ext_getElem (by simp [h]) fun i h1 h2 => ?_
 have h3 : i < s.length := by simpa using h2
 simp [List.getD, h3]
def rcC (r : Rc) : List HV := [U r.kind, I r.id, S r.path, U (r.sum.getD 0 0), U (r.sum.getD 1 0), U (r.sum.getD 2 0), U (r.sum.getD 3 0), U (r.sum.getD 4 0), U (r.sum.getD 5 0), U (r.sum.getD 6 0), U (r.sum.getD 7 0), U (r.sum.getD 8 0), U (r.sum.getD 9 0), U (r.sum.getD 10 0), U (r.sum.getD 11 0), U (r.sum.getD 12 0), U (r.sum.getD 13 0), U (r.sum.getD 14 0), U (r.sum.getD 15 0), U (r.sum.getD 16 0), U (r.sum.getD 17 0), U (r.sum.getD 18 0), U (r.sum.getD 19 0), U (r.sum.getD 20 0), U (r.sum.getD 21 0), U (r.sum.getD 22 0), U (r.sum.getD 23 0), U (r.sum.getD 24 0), U (r.sum.getD 25 0), U (r.sum.getD 26 0), U (r.sum.getD 27 0), U (r.sum.getD 28 0), U (r.sum.getD 29 0), U (r.sum.getD 30 0), U (r.sum.getD 31 0), I r.size, I r.off]
def recE (r : Rc) : HV := .ag (rcC r)
def ptC (r : Pt) : List HV := [I r.id, S r.path, U (r.sum.getD 0 0), U (r.sum.getD 1 0), U (r.sum.getD 2 0), U (r.sum.getD 3 0), U (r.sum.getD 4 0), U (r.sum.getD 5 0), U (r.sum.getD 6 0), U (r.sum.getD 7 0), U (r.sum.getD 8 0), U (r.sum.getD 9 0), U (r.sum.getD 10 0), U (r.sum.getD 11 0), U (r.sum.getD 12 0), U (r.sum.getD 13 0), U (r.sum.getD 14 0), U (r.sum.getD 15 0), U (r.sum.getD 16 0), U (r.sum.getD 17 0), U (r.sum.getD 18 0), U (r.sum.getD 19 0), U (r.sum.getD 20 0), U (r.sum.getD 21 0), U (r.sum.getD 22 0), U (r.sum.getD 23 0), U (r.sum.getD 24 0), U (r.sum.getD 25 0), U (r.sum.getD 26 0), U (r.sum.getD 27 0), U (r.sum.getD 28 0), U (r.sum.getD 29 0), U (r.sum.getD 30 0), U (r.sum.getD 31 0), I r.size, I r.off]
def partE (r : Pt) : HV := .ag (ptC r)
def okN (n : Int) : Bool := decide (0 ≤ n) && decide (n ≤ 65536)
def chkOff (k : UInt8) (o : Int) : Int := bif okN o then bif o != 0 then (bif (k.toNat : Int) != 1 then 4 else 0) else 0 else 13
def begT (p : List UInt8) (z : Int) : Int := bif chkP p != 0 then chkP p else bif hpB p pre then 6 else bif okN z then 0 else 13
def zs32 : List UInt8 := List.replicate 32 0
def sumB (a b : List UInt8) : Bool := [0, 1, 2, 3, 4, 5, 6, 7, 8, 9, 10, 11, 12, 13, 14, 15, 16, 17, 18, 19, 20, 21, 22, 23, 24, 25, 26, 27, 28, 29, 30, 31].all fun i => a.getD i 0 == b.getD i 0
def bareB (r : Rc) : Bool := r.path == [] && (sumB r.sum [] && r.size == 0)
def chkR (r : Rc) : Int := bif decide (4 < (r.kind.toNat : Int)) then 2 else bif decide (r.id < 0) then 2 else bif decide (1099511627776 < r.id) then 2 else
 bif (r.kind.toNat : Int) == 0 then (bif begT r.path r.size != 0 then begT r.path r.size else chkOff r.kind r.off) else bif bareB r then chkOff r.kind r.off else 4
def recB (a b : Rc) : Bool := a.kind == b.kind && (a.id == b.id && (a.path == b.path && (sumB a.sum b.sum && (a.size == b.size && a.off == b.off))))
def ptB (a b : Pt) : Bool := a.id == b.id && (a.path == b.path && (sumB a.sum b.sum && (a.size == b.size && a.off == b.off)))
def bareR (r : Rc) : Rc := ⟨r.kind, r.id, [], [], 0, r.off⟩
theorem recB_bare (r : Rc) : recB r (bareR r) = bareB r := by simp [recB, bareR, bareB]
theorem Ueq (a b : UInt8) : ((a.toNat : Int) == b.toNat) = (a == b) := by
 rw [Bool.eq_iff_iff, beq_iff_eq, beq_iff_eq, Int.ofNat_inj, UInt8.toNat_inj]
theorem Seq' (a b : List UInt8) : ((⟨a.toArray⟩ : ByteArray) == ⟨b.toArray⟩) = (a == b) := by
 show (a.toArray == b.toArray) = _
 simp
theorem eqv_rec (a b : Rc) : eqv (.ag [.i, .i, .s, .i, .i, .i, .i, .i, .i, .i, .i, .i, .i, .i, .i, .i, .i, .i, .i, .i, .i, .i, .i, .i, .i, .i, .i, .i, .i, .i, .i, .i, .i, .i, .i, .i, .i]) (recE a) (recE b) = some (recB a b) := by
 simp only [eqv, recE, rcC, eqL, eqs, if_true, Ueq, Seq', recB, sumB, List.all_cons, List.all_nil, Bool.and_true, Bool.and_assoc]
theorem eqv_part (a b : Pt) : eqv (.ag [.i, .s, .i, .i, .i, .i, .i, .i, .i, .i, .i, .i, .i, .i, .i, .i, .i, .i, .i, .i, .i, .i, .i, .i, .i, .i, .i, .i, .i, .i, .i, .i, .i, .i, .i, .i]) (partE a) (partE b) = some (ptB a b) := by
 simp only [eqv, partE, ptC, eqL, eqs, if_true, Ueq, Seq', ptB, sumB, List.all_cons, List.all_nil, Bool.and_true, Bool.and_assoc]
theorem setL_whole {cs ys : List HV} (h : ys.length = cs.length) : setL cs 0 ys = ys := by
 have : ∀ (ys A : List HV) (cs : List HV), ys.length = cs.length → setL (A ++ cs) A.length ys = A ++ ys := by
   intro ys
   induction ys with
   | nil => intro A cs h; have : cs = [] := List.eq_nil_of_length_eq_zero h.symm; subst this; rfl
   | cons y ys ih =>
     intro A cs h
     cases cs with
     | nil => cases h
     | cons c cs =>
       have := ih (A ++ [y]) cs (by simpa using h)
       simp only [setL]
       simpa using this
 exact this ys [] cs h
theorem r_storeW {S' : SpecT} {sl : List (Nat × EV)} {bx : List (Nat × List HV)} {H : Heap} {K : Env → Heap → Prop} {os : List SOper} {n k : Nat} {a x : Opd} {v : HV} {cs cs' : List HV} (hx : (M sl bx).hv x = some v) (h1 : v.ncells = n) (h2 : v.el = true) (ha : (M sl bx).opd a = some (.lp k 0)) (hk : (M sl bx).box k = some cs) (hl : cs.length = n) (hc : v.cells = cs') (hn : cs'.length = n)
   (h : rsem S' os (M sl ((k, cs') :: bx)) H K) : rsem S' (⟨none, .store n a x, none⟩ :: os) (M sl bx) H K :=
 r_storeb hx h1 h2 ha hk (by rw [hl, Nat.zero_add]; exact Nat.ble_eq_true_of_le (Nat.le_refl _)) (by subst hc; exact setL_whole (by rw [hn, hl])) h
attribute [local irreducible] csem rsem dsem seqK blockK normK finK DK RK JK BR G3 resK Spec Tok Fr CV
theorem szR_spec (L : Linked code) (n : Int) : Pure L 413 [I n] (B (okN n)) := by
 intro H K hk
 refine go_spec L code413 rfl ?_
 repeat (refine gk trivial ?_)
 (refine gt trivial ?_ ?_ <;> intro h)
 · have h1 : 0 ≤ n := of_decide_eq_true h
   repeat (refine gk trivial ?_)
   refine resK_some ?_
   simpa [okN, h1, tupled] using hk
 · have h1 : ¬ 0 ≤ n := of_decide_eq_false h
   repeat (refine gk trivial ?_)
   refine resK_some ?_
   simpa [okN, h1, tupled] using hk
theorem begR_spec (L : Linked code) (r : Rc) (hp : r.path.length ≤ 1048576) : PureF L 412 [recE r] (I (begT r.path r.size)) := by
 intro H K hk
 refine go_spec L code412 rfl ?_
 repeat (refine gk trivial ?_)
 refine r_box (v := recE r) (cs := rcC r) rfl rfl rfl rfl rfl ?_
 repeat (refine gk trivial ?_)
 (apply r_call; (focus rfl))
 refine pcheck_spec L r.path hp H _ fun X fX => ?_
 unfold begT at hk
 repeat (refine gk trivial ?_)
 cases c1 : chkP r.path != 0
 · rw [c1] at hk
   repeat (refine gk trivial ?_)
   (apply r_call; (focus rfl))
   refine res_spec L r.path X _ ?_
   repeat (refine gk trivial ?_)
   cases c2 : hpB r.path pre
   · rw [c2] at hk
     repeat (refine gk trivial ?_)
     (apply r_call; (focus rfl))
     refine szR_spec L r.size X _ ?_
     cases c3 : okN r.size
     all_goals
       rw [c3] at hk
       repeat (refine gk trivial ?_)
       exact resK_some (hk _ fX)
   · rw [c2] at hk
     repeat (refine gk trivial ?_)
     exact resK_some (hk _ fX)
 · rw [c1] at hk
   repeat (refine gk trivial ?_)
   exact resK_some (hk _ fX)
theorem checkR_spec (L : Linked code) (r : Rc) (hp : r.path.length ≤ 1048576) : PureF L 384 [recE r] (I (chkR r)) := by
 intro H K hk
 unfold chkR at hk
 refine go_spec L code384 rfl ?_
 repeat (refine gr trivial ?_)
 refine r_box (v := recE r) (cs := rcC r) rfl rfl rfl rfl rfl ?_
 repeat (refine gr trivial ?_)
 refine r_calm (x := .h (recE (bareR r))) rfl rfl ?_
 repeat (refine gr trivial ?_)
 refine r_storeW (cs' := rcC (bareR r)) rfl rfl rfl rfl rfl rfl rfl rfl ?_
 repeat (refine gr trivial ?_)
 cases c1 : decide (4 < (r.kind.toNat : Int))
 · rw [c1] at hk
   repeat (refine gr trivial ?_)
   cases c2 : decide (r.id < 0)
   · rw [c2] at hk
     repeat (refine gr trivial ?_)
     cases c3 : decide (1099511627776 < r.id)
     · rw [c3] at hk
       repeat (refine gr trivial ?_)
       cases c4 : (r.kind.toNat : Int) == 0
       · rw [c4] at hk
         repeat (refine gr trivial ?_)
         refine r_loadb (v := recE r) rfl rfl rfl ?_
         refine r_loadb (v := recE (bareR r)) rfl rfl rfl ?_
         refine r_ne (t := bareB r) rfl rfl ((eqv_rec _ _).trans (by rw [recB_bare])) rfl ?_
         cases c5 : bareB r
         · rw [c5] at hk
           rw [Bool.not_false]
           repeat (refine gr trivial ?_)
           exact resK_some (hk _ (Fr.refl _ _))
         · rw [c5] at hk
           rw [Bool.not_true]
           repeat (refine gr trivial ?_)
           (apply r_call; (focus rfl))
           refine szR_spec L r.off _ _ ?_
           unfold chkOff at hk
           cases c6 : okN r.off
           · rw [c6] at hk
             repeat (refine gr trivial ?_)
             exact resK_some (hk _ (Fr.refl _ _))
           · rw [c6] at hk
             repeat (refine gr trivial ?_)
             cases c7 : r.off != 0
             · rw [c7] at hk
               repeat (refine gr trivial ?_)
               exact resK_some (hk _ (Fr.refl _ _))
             · rw [c7] at hk
               repeat (refine gr trivial ?_)
               cases c8 : (r.kind.toNat : Int) != 1
               all_goals
                 rw [c8] at hk
                 repeat (refine gr trivial ?_)
                 exact resK_some (hk _ (Fr.refl _ _))
       · rw [c4] at hk
         repeat (refine gr trivial ?_)
         refine r_loadb (v := recE r) rfl rfl rfl ?_
         (apply r_call; (focus rfl))
         refine begR_spec L r hp H _ fun X fX => ?_
         repeat (refine gr trivial ?_)
         cases c5 : begT r.path r.size != 0
         · rw [c5] at hk
           repeat (refine gr trivial ?_)
           (apply r_call; (focus rfl))
           refine szR_spec L r.off _ _ ?_
           unfold chkOff at hk
           cases c6 : okN r.off
           · rw [c6] at hk
             repeat (refine gr trivial ?_)
             exact resK_some (hk _ fX)
           · rw [c6] at hk
             repeat (refine gr trivial ?_)
             cases c7 : r.off != 0
             · rw [c7] at hk
               repeat (refine gr trivial ?_)
               exact resK_some (hk _ fX)
             · rw [c7] at hk
               repeat (refine gr trivial ?_)
               cases c8 : (r.kind.toNat : Int) != 1
               all_goals
                 rw [c8] at hk
                 repeat (refine gr trivial ?_)
                 exact resK_some (hk _ fX)
         · rw [c5] at hk
           repeat (refine gr trivial ?_)
           exact resK_some (hk _ fX)
     · rw [c3] at hk
       repeat (refine gr trivial ?_)
       exact resK_some (hk _ (Fr.refl _ _))
   · rw [c2] at hk
     repeat (refine gr trivial ?_)
     exact resK_some (hk _ (Fr.refl _ _))
 · rw [c1] at hk
   repeat (refine gr trivial ?_)
   exact resK_some (hk _ (Fr.refl _ _))
end Sm
namespace Sm
open Go
def sum32 (s : List UInt8) : List UInt8 := [s.getD 0 0, s.getD 1 0, s.getD 2 0, s.getD 3 0, s.getD 4 0, s.getD 5 0, s.getD 6 0, s.getD 7 0, s.getD 8 0, s.getD 9 0, s.getD 10 0, s.getD 11 0, s.getD 12 0, s.getD 13 0, s.getD 14 0, s.getD 15 0, s.getD 16 0, s.getD 17 0, s.getD 18 0, s.getD 19 0, s.getD 20 0, s.getD 21 0, s.getD 22 0, s.getD 23 0, s.getD 24 0, s.getD 25 0, s.getD 26 0, s.getD 27 0, s.getD 28 0, s.getD 29 0, s.getD 30 0, s.getD 31 0]
def recTail (r : Rc) : List UInt8 := bif (r.kind.toNat : Int) == 0 then textB r.path ++ sum32 r.sum ++ putV r.size else bif (r.kind.toNat : Int) == 1 then putV r.off else []
def recBody (r : Rc) : List UInt8 := r.kind :: putV r.id ++ recTail r
def encR (r : Rc) : List UInt8 := textB (sealB (recBody r))
def recPut (r : Rc) : List UInt8 × Int := bif chkR r != 0 then ([], chkR r) else (encR r, 0)
theorem chkR_ok {r : Rc} (h : chkR r = 0) : r.kind.toNat ≤ 4 ∧ 0 ≤ r.id ∧ r.id ≤ 1099511627776 ∧ r.path.length ≤ 128 ∧ 0 ≤ r.size ∧ r.size ≤ 65536 ∧ 0 ≤ r.off ∧ r.off ≤ 65536 := by
 unfold chkR at h
 have hoff : chkOff r.kind r.off = 0 → 0 ≤ r.off ∧ r.off ≤ 65536 := fun h => by
   unfold chkOff okN at h
   cases c : (decide (0 ≤ r.off) && decide (r.off ≤ 65536))
   · rw [c] at h; cases h
   · simpa using c
 cases c1 : decide (4 < (r.kind.toNat : Int))
 · cases c2 : decide (r.id < 0)
   · cases c3 : decide (1099511627776 < r.id)
     · rw [c1, c2, c3] at h
       have c1 := of_decide_eq_false c1
       have c2 := of_decide_eq_false c2
       have c3 := of_decide_eq_false c3
       cases c4 : (r.kind.toNat : Int) == 0
       · rw [c4] at h
         cases c5 : bareB r
         · rw [c5] at h; cases h
         · rw [c5] at h
           have h := hoff h
           simp only [bareB, Bool.and_eq_true, beq_iff_eq] at c5
           rw [c5.1, c5.2.2]
           exact ⟨by omega, by omega, by omega, by simp, by omega, by omega, h.1, h.2⟩
       · rw [c4] at h
         cases c5 : begT r.path r.size != 0
         · rw [c5] at h
           have h := hoff h
           have c5 : begT r.path r.size = 0 := by simpa using c5
           unfold begT at c5
           cases d1 : chkP r.path != 0
           · rw [d1] at c5
             have d1 : chkP r.path = 0 := by simpa using d1
             cases d2 : hpB r.path pre
             · rw [d2] at c5
               cases d3 : okN r.size
               · rw [d3] at c5; cases c5
               · simp only [okN, Bool.and_eq_true, decide_eq_true_eq] at d3
                 refine ⟨by omega, by omega, by omega, ?_, d3.1, d3.2, h.1, h.2⟩
                 unfold chkP at d1
                 by_cases h9 : 128 < r.path.length
                 · rw [if_pos h9] at d1; cases d1
                 · omega
             · rw [d2] at c5; cases c5
           · rw [d1] at c5
             have c5 : chkP r.path = 0 := c5
             rw [c5] at d1; cases d1
         · rw [c5] at h
           have h : begT r.path r.size = 0 := h
           rw [h] at c5; cases c5
     · rw [c1, c2, c3] at h; cases h
   · rw [c1, c2] at h; cases h
 · rw [c1] at h; cases h
theorem r_allocF {S' : SpecT} {sl : List (Nat × EV)} {bx : List (Nat × List HV)} {H : Heap} {K : Env → Heap → Prop} {os : List SOper} {d : Nat} {cs : List HV} (h : ∀ b X, H b = none → X b = some (.obj cs) → Fr [] H X → rsem S' os (M ((d, .h (ptr b)) :: sl) bx) X K) : rsem S' (⟨some d, .alloc none cs, none⟩ :: os) (M sl bx) H K :=
 r_allocH fun b hb => h b _ hb (Heap.upd_same _ _ _) (Fr.new hb)
theorem r_storeWX {S' : SpecT} {sl : List (Nat × EV)} {bx : List (Nat × List HV)} {H : Heap} {K : Env → Heap → Prop} {os : List SOper} {n b : Nat} {a x : Opd} {v : HV} {cs cs' : List HV} (hx : (M sl bx).hv x = some v) (h1 : v.ncells = n) (h2 : v.el = true) (ha : (M sl bx).opd a = some (.h (ptr b))) (hk : H b = some (.obj cs)) (hl : cs.length = n) (hc : v.cells = cs') (hn : cs'.length = n)
   (h : ∀ X, X b = some (.obj cs') → Fr [b] H X → rsem S' os (M sl bx) X K) : rsem S' (⟨none, .store n a x, none⟩ :: os) (M sl bx) H K :=
 r_storeH hx h1 h2 ha hk (by rw [hl, Nat.zero_add]; exact Nat.ble_eq_true_of_le (Nat.le_refl _)) (by subst hc; exact setL_whole (by rw [hn, hl])) (h _ (Heap.upd_same _ _ _) (Fr.set (by simp)))
def ownb : HV → List Nat
 | .v (.slice (some a) _ _) => [a.block]
 | _ => []
theorem recBody_le {r : Rc} (h : r.path.length ≤ 128) : (recBody r).length ≤ 1000 := by
 have l0 := putV_le r.id
 have l1 := putV_le r.size
 have l2 := putV_le r.off
 have l3 := putV_le (r.path.length : Int)
 have l4 : (sum32 r.sum).length = 32 := rfl
 have : (recTail r).length ≤ 300 := by
   unfold recTail
   cases (r.kind.toNat : Int) == 0 <;> cases (r.kind.toNat : Int) == 1 <;> simp only [cond_true, cond_false, textB, List.length_append, List.length_nil] <;> omega
 simp only [recBody, List.length_append, List.length_cons]
 omega
attribute [local irreducible] csem rsem dsem seqK blockK normK finK DK RK JK BR G3 resK Spec Tok Fr CV
theorem recPut_spec (L : Linked code) (r : Rc) (hp : r.path.length ≤ 1048576) : PureF L 432 [recE r] (.tu [.sl .no 1 ((recPut r).1.map U), I (recPut r).2]) := by
 intro H K hk
 refine go_spec L code432 rfl ?_
 unfold recPut at hk
 repeat (refine gs trivial ?_)
 refine r_boxX (v := recE r) (cs := rcC r) rfl rfl rfl rfl fun b X hb hX fX sX => ?_
 repeat (refine gs trivial ?_)
 refine c_seq ?_
 repeat (refine gs trivial ?_)
 apply r_load (v := recE r); (focus rfl); (focus exact hX); (focus rfl)
 (apply r_call; (focus rfl))
 refine checkR_spec L r hp X _ fun Y fY => ?_
 have hY : Y b = some (.obj (rcC r)) := fY.get (by simp) hX
 repeat (refine gs trivial ?_)
 cases c1 : chkR r != 0
 · rw [c1] at hk
   have c1 : chkR r = 0 := by simpa using c1
   obtain ⟨k1, k2, k3, k4, k5, k6, k7, k8⟩ := chkR_ok c1
   repeat (refine gs trivial ?_)
   (apply r_call; (focus rfl))
   refine lnum_spec L r.id (by omega) (by omega) Y _ fun Z fZ => ?_
   have hZ : Z b = some (.obj (rcC r)) := fZ.get (by simp) hY
   have l0 := putV_le r.id
   repeat (refine gs trivial ?_)
   refine r_appT (H0 := Z) (l := [r.kind]) (Fr.refl _ _) rfl rfl rfl (flatUr _ _ _) (by simp; omega) fun v W hO fW hv2 => ?_
   have hW : W b = some (.obj (rcC r)) := fW.get (by simp) hZ
   have fHZ : Fr [] H Z := fX.trans (fY.trans fZ)
   repeat (refine gs trivial ?_)
   refine c_joinV (Spec_SMono L) (fun (w : HV) => [(5, .h w)]) (fun _ => []) (fun w V => OB H V w (recBody r) ∧ Fr [] H V) ?_ ?_
   · repeat (refine gs trivial ?_)
     cases c2 : (r.kind.toNat : Int) == 0
     · have e0 : recTail r = bif (r.kind.toNat : Int) == 1 then putV r.off else [] := by rw [recTail, c2]; rfl
       repeat (refine gs trivial ?_)
       cases c3 : (r.kind.toNat : Int) == 1
       · rw [c3] at e0
         have e1 : [r.kind] ++ putV r.id = recBody r := by rw [recBody, e0]; simp
         repeat (refine gs trivial ?_)
         rw [e1] at hO
         refine j_n v ⟨hO.up fHZ, fHZ.trans fW⟩ ?_
         (refine leM ?_ ?_ ?_ <;> (repeat refine leS trivial ?_) <;> exact leE)
       · rw [c3] at e0
         have e1 : [r.kind] ++ putV r.id ++ putV r.off = recBody r := by rw [recBody, e0]; simp
         have l1 := putV_le r.off
         repeat (refine gs trivial ?_)
         (apply r_call; (focus rfl))
         refine lnum_spec L r.off (by omega) (by omega) W _ fun V fV => ?_
         repeat (refine gs trivial ?_)
         refine r_appV (hO.fr fV) (fW.trans fV) rfl rfl (flatUr _ _ _) (by simp; omega) fun v' V' hO' fV' _ => ?_
         rw [e1] at hO'
         repeat (refine gs trivial ?_)
         refine j_n v' ⟨hO'.up fHZ, fHZ.trans fV'⟩ ?_
         (refine leM ?_ ?_ ?_ <;> (repeat refine leS trivial ?_) <;> exact leE)
     · have e0 : recTail r = textB r.path ++ sum32 r.sum ++ putV r.size := by rw [recTail, c2]; rfl
       have e1 : [r.kind] ++ putV r.id ++ [textB r.path, sum32 r.sum, putV r.size].flatten = recBody r := by rw [recBody, e0]; simp
       have l1 := putV_le r.size
       have l2 := putV_le (r.path.length : Int)
       have l3 : (textB r.path).length ≤ 136 := by rw [textB, List.length_append]; omega
       have l4 : (sum32 r.sum).length = 32 := rfl
       have l5 : [textB r.path, sum32 r.sum, putV r.size].flatten.length ≤ 200 := by simp only [List.flatten_cons, List.flatten_nil, List.length_append, List.length_nil]; omega
       repeat (refine gs trivial ?_)
       (apply r_call; (focus rfl))
       refine ltext_spec L r.path (by omega) W _ fun V fV => ?_
       have hV : V b = some (.obj (rcC r)) := fV.get (by simp) hW
       repeat (refine gs trivial ?_)
       (apply r_call; (focus rfl))
       refine lnum_spec L r.size (by omega) (by omega) V _ fun V2 fV2 => ?_
       repeat (refine gs trivial ?_)
       have hV2 : V2 b = some (.obj (rcC r)) := (fV.trans fV2).get (by simp) hW
       have hR : RBs V2 [.sl .no 1 ((textB r.path).map U), .v (.slice (some ⟨b, 3, none⟩) 32 32), .sl .full 1 ((putV r.size).map U)] [textB r.path, sum32 r.sum, putV r.size] :=
         ⟨RB.sl _ _ _, .inr (.inr ⟨b, 3, 32, rcC r, rfl, hV2, (by show 35 ≤ 37; omega), rfl⟩), RB.sl _ _ _, trivial⟩
       (apply r_call; (focus rfl))
       refine join_spec L _ _ _ (by show 3 ≤ 1048576; omega) (by omega) V2 _ hR fun w V3 hO3 fV3 => ?_
       repeat (refine gs trivial ?_)
       have f3 := (fV.trans fV2).trans fV3
       refine r_appV (hO.fr f3) (fW.trans f3) rfl rfl (rdm_ob hO3) (by simp only [List.length_append, List.length_cons, List.length_nil]; omega) fun v' V' hO' fV' _ => ?_
       rw [e1] at hO'
       repeat (refine gs trivial ?_)
       refine j_n v' ⟨hO'.up fHZ, fHZ.trans fV'⟩ ?_
       (refine leM ?_ ?_ ?_ <;> (repeat refine leS trivial ?_) <;> exact leE)
   · rintro w V0 ⟨hO, f0⟩
     have lb : (recBody r).length ≤ 1000 := recBody_le k4
     obtain ⟨V, hv, fV⟩ := hO.vs (sl := [(5, .h w)]) (bx := []) (t := 5) (sl' := []) (bx' := []) f0 rfl trivial trivial (by simp [lpOk])
     refine ⟨_, V, hv, ?_⟩
     repeat (refine gr trivial ?_)
     (apply r_call; (focus rfl))
     refine seal_spec L _ (recBody r) (by omega) V _ fun V2 fV2 => ?_
     repeat (refine gr trivial ?_)
     (apply r_call; (focus rfl))
     refine ltext_spec L (sealB (recBody r)) (by rw [sealB, List.length_append, le4_len]; omega) V2 _ fun V3 fV3 => ?_
     repeat (refine gr trivial ?_)
     exact resK_some (hk _ (fV.trans (fV2.trans fV3)))
 · rw [c1] at hk
   repeat (refine gr trivial ?_)
   refine resK_weak (Weak.tu (show WeakL [.v (.slice none 0 0), I (chkR r)] [.sl .no 1 (([] : List UInt8).map U), I (chkR r)] from ⟨Weak.nil' 1, Weak.refl _, trivial⟩)) (hk _ (fX.trans fY))
end Sm
namespace Sm
open Go
theorem Rd.num_le (r : Rd) (m : Int) : (r.num m).1.b.length ≤ r.b.length := by
 unfold Rd.num
 repeat (first | (simp only [List.length_drop]; omega) | exact Nat.le_refl _ | split)
theorem Rd.raw_le (r : Rd) (m : Int) : (r.raw m).1.b.length ≤ r.b.length := by
 unfold Rd.raw
 repeat (first | (simp only [List.length_drop]; omega) | exact Nat.le_refl _ | split)
theorem Rd.raw_len (r : Rd) (m : Int) : (r.raw m).2.length ≤ r.b.length := by
 unfold Rd.raw
 repeat (first | (simp only [List.length_take]; omega) | exact Nat.zero_le _ | split)
theorem Rd.raw32 (r : Rd) : (r.raw 32).2 = [] ∨ (r.raw 32).2.length = 32 := by
 unfold Rd.raw
 split
 · exact .inl rfl
 · split
   · exact .inl rfl
   · split
     · exact .inl rfl
     · right
       simp only [List.length_take]
       omega
theorem Rd.text_le (r : Rd) (m : Int) : (r.text m).1.b.length ≤ r.b.length ∧ (r.text m).2.length ≤ r.b.length := by
 unfold Rd.text
 split
 · exact ⟨Nat.le_refl _, Nat.zero_le _⟩
 · split
   · exact ⟨Nat.le_refl _, Nat.zero_le _⟩
   · have h1 := Rd.raw_le ⟨r.b.drop (lookR r.b m).2.1.toNat, 0⟩ (lookR r.b m).1
     have h2 := Rd.raw_len ⟨r.b.drop (lookR r.b m).2.1.toNat, 0⟩ (lookR r.b m).1
     simp only [List.length_drop] at h1 h2
     omega
theorem Rd.byte_le (r : Rd) : r.byte.1.b.length ≤ r.b.length := Rd.raw_le r 1
def bodyR (b : List UInt8) : Rc × Rd :=
 let k := (Rd.mk b 0).byte
 let i := k.1.num 1099511627776
 bif (k.2.toNat : Int) == 0 then
   let p := i.1.text 128
   let s := p.1.raw 32
   let z := s.1.num 65536
   (⟨k.2, i.2, p.2, s.2, z.2, 0⟩, z.1)
 else bif (k.2.toNat : Int) == 1 then
   let o := i.1.num 65536
   (⟨k.2, i.2, [], [], 0, o.2⟩, o.1)
 else (⟨k.2, i.2, [], [], 0, 0⟩, i.1)
def readR (b : List UInt8) : Rc × Bool := ((bodyR b).1, (bodyR b).2.done == 0 && chkR (bodyR b).1 == 0)
theorem rcC_split (r : Rc) : rcC r = [U r.kind, I r.id, S r.path] ++ (sumC r.sum ++ [I r.size, I r.off]) := rfl
theorem setL_sum {r : Rc} {s : List UInt8} (h0 : r.sum = []) (hs : s = [] ∨ s.length = 32) : setL (rcC r) 3 ((s.map U).take (min s.length 32 * 1)) = rcC { r with sum := s } := by
 rcases hs with rfl | hs
 · have e : (([] : List UInt8).map U).take (min ([] : List UInt8).length 32 * 1) = [] := by simp
   have e2 : ({ r with sum := [] } : Rc) = r := by cases r; cases h0; rfl
   rw [e, e2]
   simp only [setL]
 · have e : (s.map U).take (min s.length 32 * 1) = s.map U := List.take_of_length_le (by simp [hs])
   rw [e, rcC_split, rcC_split, ← sumC_eq hs, ← List.append_assoc, ← List.append_assoc]
   exact setL_mid (by simp only [List.length_cons, List.length_nil]) (by simp only [sumC, List.length_cons, List.length_nil])
attribute [local irreducible] csem rsem dsem seqK blockK normK finK DK RK JK BR G3 resK Spec Tok Fr CV RD
theorem RD.fr {X Y : Heap} {p : Nat} {r : Rd} {bs : List Nat} (h : RD X p r) (f : Fr bs X Y) (hp : p ∉ bs) : RD Y p r := by
 unfold RD at h ⊢
 obtain ⟨tk, h⟩ := h
 exact ⟨tk, f.get hp h⟩
theorem RD.ne {X : Heap} {p a : Nat} {r : Rd} (h : RD X p r) (ha : X a = none) : a ≠ p := by
 unfold RD at h
 obtain ⟨tk, h⟩ := h
 rintro rfl
 rw [ha] at h; cases h
theorem bodyR_eq {l : List UInt8} {kk : Rd × UInt8} {ii : Rd × Int} (h1 : (Rd.mk l 0).byte = kk) (h2 : kk.1.num 1099511627776 = ii) : bodyR l =
   (bif (kk.2.toNat : Int) == 0 then ((⟨kk.2, ii.2, (ii.1.text 128).2, ((ii.1.text 128).1.raw 32).2, (((ii.1.text 128).1.raw 32).1.num 65536).2, 0⟩ : Rc), (((ii.1.text 128).1.raw 32).1.num 65536).1)
   else bif (kk.2.toNat : Int) == 1 then (⟨kk.2, ii.2, [], [], 0, (ii.1.num 65536).2⟩, (ii.1.num 65536).1)
   else (⟨kk.2, ii.2, [], [], 0, 0⟩, ii.1)) := by
 unfold bodyR
 dsimp only
 rw [h1, h2]
theorem readR_spec (L : Linked code) (tk : Tk) (l : List UInt8) (hl : l.length ≤ 1048576) : PureF L 444 [.sl tk 1 (l.map U)] (.tu [recE (readR l).1, B (readR l).2]) := by
 intro H K hk
 refine go_spec L code444 rfl ?_
 repeat (refine gs trivial ?_)
 (apply r_call; (focus rfl))
 refine fnew_spec L tk l H _ fun p X hp hD fX => ?_
 repeat (refine gs trivial ?_)
 (apply r_call; (focus rfl))
 refine fbyte_spec L p _ hl X hD _ fun Y hDY fY => ?_
 generalize hk1 : (Rd.mk l 0).byte = kk at *
 have l1 : kk.1.b.length ≤ 1048576 := by rw [← hk1]; exact Nat.le_trans (Rd.byte_le _) hl
 repeat (refine gs trivial ?_)
 (apply r_call; (focus rfl))
 refine fnum_spec L p _ _ l1 Y hDY _ fun Z hDZ fZ => ?_
 generalize hi1 : kk.1.num 1099511627776 = ii at *
 have l2 : ii.1.b.length ≤ 1048576 := by rw [← hi1]; exact Nat.le_trans (Rd.num_le _ _) l1
 have hB := bodyR_eq hk1 hi1
 repeat (refine gs trivial ?_)
 refine r_calm (x := .h (recE ⟨kk.2, ii.2, [], [], 0, 0⟩)) rfl rfl ?_
 repeat (refine gs trivial ?_)
 refine r_allocF fun a V ha hV fV => ?_
 repeat (refine gs trivial ?_)
 refine r_storeWX (v := recE ⟨kk.2, ii.2, [], [], 0, 0⟩) (cs' := rcC ⟨kk.2, ii.2, [], [], 0, 0⟩) rfl rfl rfl rfl hV rfl rfl rfl fun V1 hV1 fV1 => ?_
 have hap : a ≠ p := hDZ.ne ha
 have fHZ : Fr [] H Z := (fX.own hp fY).own hp fZ
 have fHV : Fr [] H V1 := (fHZ.trans fV).own (fHZ.of_none ha) fV1
 have hDV : RD V1 p ii.1 := (hDZ.fr fV (by simp)).fr fV1 (by simp [hap.symm])
 have hna : H a = none := fHZ.of_none ha
 repeat (refine gs trivial ?_)
 refine c_join (Spec_SMono L) (fun (_ : Unit) => [(2, .lp 0 0), (4, .h (ptr p)), (5, .h (ptr a))]) (fun _ => [(0, rcC ⟨0, 0, [], [], 0, 0⟩)]) (fun _ W => W a = some (.obj (rcC (bodyR l).1)) ∧ RD W p (bodyR l).2 ∧ Fr [] H W) ?_ ?_
 · repeat (refine gs trivial ?_)
   cases c2 : (kk.2.toNat : Int) == 0
   · rw [c2] at hB
     repeat (refine gs trivial ?_)
     cases c3 : (kk.2.toNat : Int) == 1
     · rw [c3] at hB
       repeat (refine gs trivial ?_)
       refine j_n () ⟨by rw [hB]; exact hV1, by rw [hB]; exact hDV, fHV⟩ ?_
       (refine leM ?_ ?_ ?_ <;> (repeat refine leS trivial ?_) <;> exact leE)
     · rw [c3] at hB
       repeat (refine gs trivial ?_)
       (apply r_call; (focus rfl))
       refine fnum_spec L p _ _ l2 V1 hDV _ fun W hDW fW => ?_
       have hW : W a = some (.obj (rcC ⟨kk.2, ii.2, [], [], 0, 0⟩)) := fW.get (by simp [hap]) hV1
       repeat (refine gs trivial ?_)
       refine r_storeX (cs' := rcC ⟨kk.2, ii.2, [], [], 0, (ii.1.num 65536).2⟩) rfl rfl rfl rfl hW rfl rfl fun W2 hW2 fW2 => ?_
       repeat (refine gs trivial ?_)
       refine j_n () ⟨by rw [hB]; exact hW2, by rw [hB]; exact hDW.fr fW2 (by simp [hap.symm]), (fHV.own hp fW).own hna fW2⟩ ?_
       (refine leM ?_ ?_ ?_ <;> (repeat refine leS trivial ?_) <;> exact leE)
   · rw [c2] at hB
     repeat (refine gs trivial ?_)
     (apply r_call; (focus rfl))
     refine ftext_spec L p _ _ l2 V1 hDV _ fun W hDW fW => ?_
     have hW : W a = some (.obj (rcC ⟨kk.2, ii.2, [], [], 0, 0⟩)) := fW.get (by simp [hap]) hV1
     have l3 : (ii.1.text 128).1.b.length ≤ 1048576 := Nat.le_trans (Rd.text_le _ _).1 l2
     generalize (ii.1.text 128) = tt at *
     repeat (refine gs trivial ?_)
     refine r_storeX (cs' := rcC ⟨kk.2, ii.2, tt.2, [], 0, 0⟩) rfl rfl rfl rfl hW rfl rfl fun W2 hW2 fW2 => ?_
     have hDW2 := hDW.fr fW2 (by simp [hap.symm])
     repeat (refine gs trivial ?_)
     (apply r_call; (focus rfl))
     refine fraw_spec L p _ _ l3 W2 hDW2 _ fun W3 hDW3 fW3 => ?_
     have hW3 : W3 a = some (.obj (rcC ⟨kk.2, ii.2, tt.2, [], 0, 0⟩)) := fW3.get (by simp [hap]) hW2
     have l4 : (tt.1.raw 32).1.b.length ≤ 1048576 := Nat.le_trans (Rd.raw_le _ _) l3
     have hs := Rd.raw32 tt.1
     generalize (tt.1.raw 32) = ss at *
     repeat (refine gs trivial ?_)
     apply r_copyO; (focus rfl); (focus exact rdm_S _ _); (focus exact hW3); (focus (show 35 ≤ 37; omega))
     intro W4 hW4 fW4
     have hW4 : W4 a = some (.obj (rcC ⟨kk.2, ii.2, tt.2, ss.2, 0, 0⟩)) := by
       rw [← setL_sum (r := ⟨kk.2, ii.2, tt.2, [], 0, 0⟩) rfl hs]; exact hW4
     have hDW4 := hDW3.fr fW4 (by simp [hap.symm])
     repeat (refine gs trivial ?_)
     (apply r_call; (focus rfl))
     refine fnum_spec L p _ _ l4 W4 hDW4 _ fun W5 hDW5 fW5 => ?_
     have hW5 : W5 a = some (.obj (rcC ⟨kk.2, ii.2, tt.2, ss.2, 0, 0⟩)) := fW5.get (by simp [hap]) hW4
     generalize (ss.1.num 65536) = zz at *
     repeat (refine gs trivial ?_)
     refine r_storeX (cs' := rcC ⟨kk.2, ii.2, tt.2, ss.2, zz.2, 0⟩) rfl rfl rfl rfl hW5 rfl rfl fun W6 hW6 fW6 => ?_
     repeat (refine gs trivial ?_)
     refine j_n () ⟨by rw [hB]; exact hW6, by rw [hB]; exact hDW5.fr fW6 (by simp [hap.symm]), (((((fHV.own hp fW).own hna fW2).own hp fW3).own hna fW4).own hp fW5).own hna fW6⟩ ?_
     (refine leM ?_ ?_ ?_ <;> (repeat refine leS trivial ?_) <;> exact leE)
 · rintro _ W ⟨hW, hDW, fW⟩
   have hpl : (bodyR l).1.path.length ≤ 1048576 := by
     rw [hB]
     cases (kk.2.toNat : Int) == 0
     · cases (kk.2.toNat : Int) == 1 <;> exact Nat.zero_le _
     · exact Nat.le_trans (Rd.text_le _ _).2 l2
   unfold readR at hk
   generalize bodyR l = bb at *
   repeat (refine gs trivial ?_)
   apply r_load (v := recE bb.1); (focus rfl); (focus exact hW); (focus rfl)
   repeat (refine gs trivial ?_)
   (apply r_call; (focus rfl))
   refine fdone_spec L p bb.2 W hDW _ ?_
   repeat (refine gs trivial ?_)
   cases c5 : bb.2.done == 0
   · rw [c5] at hk
     repeat (refine gs trivial ?_)
     refine r_storeW (v := recE bb.1) (cs' := rcC bb.1) rfl rfl rfl rfl rfl rfl rfl rfl ?_
     repeat (refine gs trivial ?_)
     exact resK_some (hk _ fW)
   · rw [c5] at hk
     repeat (refine gs trivial ?_)
     apply r_load (v := recE bb.1); (focus rfl); (focus exact hW); (focus rfl)
     repeat (refine gs trivial ?_)
     (apply r_call; (focus rfl))
     refine checkR_spec L bb.1 hpl W _ fun W2 fW2 => ?_
     have hW2 : W2 a = some (.obj (rcC bb.1)) := fW2.get (by simp) hW
     repeat (refine gs trivial ?_)
     refine r_storeW (v := recE bb.1) (cs' := rcC bb.1) rfl rfl rfl rfl rfl rfl rfl rfl ?_
     repeat (refine gs trivial ?_)
     exact resK_some (hk _ (fW.trans fW2))
end Sm
