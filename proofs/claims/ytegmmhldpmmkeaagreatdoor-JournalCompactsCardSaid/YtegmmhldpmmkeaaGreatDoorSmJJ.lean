/-
  J30,J31,J32
-/
import Derived.Test.YtegmmhldpmmkeaaGreatDoorSmJI
import Derived.Test.YtegmmhldpmmkeaaGreatDoorSmJG
set_option linter.unusedVariables false
set_option linter.unusedSimpArgs false
set_option maxRecDepth 10000
set_option maxHeartbeats 4000000
namespace Sm
open Go
structure Ac where
 kind : UInt8
 r : Rc
 d : Ak
def akC (a : Ak) : List HV := [U a.kind, S a.p, S a.q, .sl .no 1 (a.b.map U), I a.n, B a.done]
def acC (a : Ac) : List HV := U a.kind :: (rcC a.r ++ akC a.d)
def acV (a : Ac) : HV := .ag (acC a)
def smallJ (a : Ac) : Bool := !decide (300 < (a.r.path.length : Int)) && (!decide (300 < (a.d.b.length : Int)) && (!decide (300 < (a.d.p.length : Int)) && (!decide (300 < (a.d.q.length : Int)) && !decide (2199023255552 < a.r.id))))
theorem smallJ_eq (a : Ac) : smallJ a = (!decide (300 < (a.r.path.length : Int)) && (!decide (300 < (a.d.b.length : Int)) && (!decide (300 < (a.d.p.length : Int)) && (!decide (300 < (a.d.q.length : Int)) && !decide (2199023255552 < a.r.id))))) := rfl
def fewJ (l : List Ac) (most : Int) : Bool := !decide (most < (l.length : Int)) && l.all smallJ
section
variable {S' : SpecT} {sl : List (Nat × EV)} {bx : List (Nat × List HV)} {H : Heap} {K : Env → Heap → Prop} {os : List SOper} {d : Nat}
theorem r_buildR6 {z : List HV} {x0 x1 x2 x3 x4 x5 : Opd} {k : UInt8} {id size off : Int} {p s : List UInt8} (hz : z = rcC zR) (hk : (M sl bx).hv x0 = some (U k)) (h0 : (M sl bx).hv x1 = some (I id)) (h1 : (M sl bx).hv x2 = some (S p)) (h2 : (M sl bx).hv x3 = some (.ag (sumC s))) (h3 : (M sl bx).hv x4 = some (I size)) (h4 : (M sl bx).hv x5 = some (I off))
   (h : rsem S' os (M ((d, .h (recE ⟨k, id, p, s, size, off⟩)) :: sl) bx) H K) : rsem S' (⟨some d, .build z [(0, 1, x0), (1, 1, x1), (2, 1, x2), (3, 32, x3), (35, 1, x4), (36, 1, x5)], none⟩ :: os) (M sl bx) H K := by
 subst hz
 refine r_calm rfl ?_ h
 simp only [SOp.ev, List.map_cons, List.map_nil, hk, h0, h1, h2, h3, h4]
 have e : buildv (rcC zR) [(0, 1, some (U k)), (1, 1, some (I id)), (2, 1, some (S p)), (3, 32, some (HV.ag (sumC s))), (35, 1, some (I size)), (36, 1, some (I off))] = some (rcC ⟨k, id, p, s, size, off⟩) :=
   (buildv_step (z := rcC zR) (z' := rcC ⟨k, 0, [], [], 0, 0⟩) (h := U k) rfl rfl rfl rfl).trans <| (buildv_step (z' := rcC ⟨k, id, [], [], 0, 0⟩) (h := I id) rfl rfl rfl rfl).trans <| (buildv_step (z' := rcC ⟨k, id, p, [], 0, 0⟩) (h := S p) rfl rfl rfl rfl).trans <| (buildv_step (z' := rcC ⟨k, id, p, s, 0, 0⟩) (h := .ag (sumC s)) rfl rfl rfl (setL_sumR ⟨k, id, p, [], 0, 0⟩ s)).trans <| (buildv_step (z' := rcC ⟨k, id, p, s, size, 0⟩) (h := I size) rfl rfl rfl rfl).trans <| (buildv_step (z' := rcC ⟨k, id, p, s, size, off⟩) (h := I off) rfl rfl rfl rfl).trans rfl
 rw [e]; rfl
end
attribute [local irreducible] csem rsem dsem fsem FD DR DF finS seqK blockK normK finK DK RK JK BR G3 resK Spec Tok Fr CV
theorem lown_spec (L : Linked code) (r : Rc) : Pure L 383 [recE r] (recE r) := by
 intro H K hk
 refine go_spec L code383 rfl ?_
 repeat (refine gr trivial ?_)
 refine r_box (v := recE r) (cs := rcC r) rfl rfl rfl rfl rfl ?_
 repeat (refine gr trivial ?_)
 apply r_loadb (v := .ag (sumC r.sum)); (focus rfl); (focus rfl); (focus rfl)
 repeat (refine gr trivial ?_)
 refine r_buildR6 (s := r.sum) rfl rfl rfl rfl rfl rfl rfl ?_
 refine r_storeW (v := recE r) (cs' := rcC r) rfl rfl rfl rfl rfl rfl rfl rfl ?_
 repeat (refine gr trivial ?_)
 exact resK_some hk
theorem lfew_spec (L : Linked code) (l : List Ac) (most : Int) (hm : most ≤ 1048576) : Pure L 377 [.sl .no 44 (l.map acV), I most] (B (fewJ l most)) := by
 intro H K hk
 unfold fewJ at hk
 refine go_spec L code377 rfl ?_
 repeat (refine gr trivial ?_)
 cases c1 : decide (most < (l.length : Int))
 case true =>
   rw [c1] at hk
   repeat (refine gr trivial ?_)
   exact resK_some hk
 rw [c1, Bool.not_false, Bool.true_and] at hk
 have c1 := of_decide_eq_false c1
 repeat (refine gr trivial ?_)
 refine c_loop (Spec_SMono L) (fun (j : Nat) => [(0, .h (.sl .no 44 (l.map acV))), (5, .h (I j))]) (fun _ => []) (fun j X => X = H ∧ j ≤ l.length ∧ l.all smallJ = (l.drop j).all smallJ) (fun j => l.length - j) 0 ?_ ⟨rfl, by omega, rfl⟩ ?_
 · (refine leM ?_ ?_ ?_ <;> (repeat refine leS trivial ?_) <;> exact leE)
 rintro j X ⟨rfl, hj, hS⟩
 repeat (refine gr trivial ?_)
 (refine ct trivial ?_ ?_ <;> intro h)
 · have hlt : j < l.length := by have := of_decide_eq_true h; omega
   rw [List.drop_eq_getElem_cons hlt, List.all_cons] at hS
   have hel : (l.map acV)[j]? = some (acV l[j]) := by rw [List.getElem?_map, List.getElem?_eq_getElem hlt]; rfl
   rw [smallJ_eq] at hS
   generalize l[j] = a at *
   repeat (refine gr trivial ?_)
   refine r_idx (cs := acC a) rfl rfl rfl hel rfl ?_
   repeat (refine gr trivial ?_)
   cases e1 : decide (300 < (a.r.path.length : Int))
   case true =>
     rw [e1] at hS
     simp only [Bool.not_true, Bool.false_and] at hS
     rw [hS] at hk
     repeat (refine gr trivial ?_)
     exact resK_some hk
   rw [e1] at hS
   repeat (refine gr trivial ?_)
   refine r_idx (cs := acC a) rfl rfl rfl hel rfl ?_
   repeat (refine gr trivial ?_)
   cases e2 : decide (300 < (a.d.b.length : Int))
   case true =>
     rw [e2] at hS
     simp only [Bool.not_true, Bool.false_and, Bool.and_false] at hS
     rw [hS] at hk
     repeat (refine gr trivial ?_)
     exact resK_some hk
   rw [e2] at hS
   repeat (refine gr trivial ?_)
   refine r_idx (cs := acC a) rfl rfl rfl hel rfl ?_
   repeat (refine gr trivial ?_)
   cases e3 : decide (300 < (a.d.p.length : Int))
   case true =>
     rw [e3] at hS
     simp only [Bool.not_true, Bool.false_and, Bool.and_false] at hS
     rw [hS] at hk
     repeat (refine gr trivial ?_)
     exact resK_some hk
   rw [e3] at hS
   repeat (refine gr trivial ?_)
   refine r_idx (cs := acC a) rfl rfl rfl hel rfl ?_
   repeat (refine gr trivial ?_)
   cases e4 : decide (300 < (a.d.q.length : Int))
   case true =>
     rw [e4] at hS
     simp only [Bool.not_true, Bool.false_and, Bool.and_false] at hS
     rw [hS] at hk
     repeat (refine gr trivial ?_)
     exact resK_some hk
   rw [e4] at hS
   repeat (refine gr trivial ?_)
   refine r_idx (cs := acC a) rfl rfl rfl hel rfl ?_
   repeat (refine gr trivial ?_)
   cases e5 : decide (2199023255552 < a.r.id)
   case true =>
     rw [e5] at hS
     simp only [Bool.not_true, Bool.false_and, Bool.and_false] at hS
     rw [hS] at hk
     repeat (refine gr trivial ?_)
     exact resK_some hk
   rw [e5] at hS
   simp only [Bool.not_false, Bool.true_and] at hS
   repeat (refine gr trivial ?_)
   refine k_n (j + 1) (by omega) ⟨rfl, hlt, hS⟩ ?_
   (refine leM ?_ ?_ ?_ <;> (repeat refine leS trivial ?_) <;> exact leE)
 · have hqe : j = l.length := by have := of_decide_eq_false h; omega
   subst hqe
   rw [List.drop_length, List.all_nil] at hS
   rw [hS] at hk
   repeat (refine gr trivial ?_)
   exact resK_some hk
end Sm
namespace Sm
open Go
def decF : Nat → Nat → List UInt8
 | 0, n => []
 | f + 1, n => if n < 10 then [UInt8.ofNat (48 + n)] else decF f (n / 10) ++ [UInt8.ofNat (48 + n % 10)]
def decB (n : Nat) : List UInt8 := decF (n + 1) n
theorem decF_len : ∀ (f n : Nat), (decF f n).length ≤ f
 | 0, n => Nat.le_refl _
 | f + 1, n => by
   rw [decF]
   split
   · simp
   · have := decF_len f (n / 10)
     simp only [List.length_append, List.length_cons, List.length_nil]; omega
theorem decB_len (n : Nat) : (decB n).length ≤ n + 1 := decF_len _ _
structure JC (L : Linked code) where
 cl : Cl L
 it : ∀ (n : Nat) (hn : n < 100) (H : Heap) (K : HV → Heap → Prop) (hk : ∀ X, Fr [] H X → K (S (decB n)) X), Spec L.P L.ν 428 [I n] H K
def tempP : List UInt8 := [46, 115, 117, 109, 112, 116, 101, 114, 45, 116]
def longJ (j : Jn) : Bool := decide (2048 < j.n) && decide (2 * ((layR (imageS j.s)).length : Int) < j.n)
theorem rc_loadg {e : Env} {H : Heap} {d n b off t : Nat} {w : Bool} {agg : Bool} {x : Opd} {cs : List HV} {v : HV} (ha : e.opd x = some (.h (.v (.pointer (some ⟨b, off, none⟩))))) (hk : H b = some (.obj cs)) (hv : loadv agg n off cs = some v) (hg : e.get d = some (.h v)) : rc1 ⟨some d, .load agg n x, some (t, w)⟩ e H :=
 rc_evg (x := .h v) (by simp only [SOp.ev, ha, hk, hv]; rfl) hg
attribute [local irreducible] csem rsem dsem fsem FD DR DF finS seqK blockK normK finK DK RK JK BR G3 resK Spec Tok Fr CV
theorem jtemp_spec (L : Linked code) (C : JC L) (n : Nat) (hn : n < 100) (H : Heap) (K : HV → Heap → Prop) (hk : ∀ X, Fr [] H X → K (S (tempP ++ decB n)) X) : Spec L.P L.ν 396 [I n] H K := by
 refine go_spec L code396 rfl ?_
 repeat (refine gr trivial ?_)
 (apply r_call; (focus rfl))
 refine C.it n hn H _ fun X fX => ?_
 repeat (refine gr trivial ?_)
 refine r_sadd (a := tempP) (b := decB n) rfl rfl ?_ ?_
 · have := decB_len n
   show 10 + _ ≤ _
   omega
 repeat (refine gr trivial ?_)
 exact resK_some (hk X fX)
theorem jlong_spec (L : Linked code) (a b : Nat) (j : Jn) (hs : StOk j.s) (H : Heap) (hJ : KJ H a b j) (K : HV → Heap → Prop) (hk : ∀ X, Fr [] H X → K (B (longJ j)) X) : Spec L.P L.ν 388 [ptr a] H K := by
 have hlen := hs.len
 have hnx := hs.nx
 have hxl := img_len hs
 unfold longJ at hk
 have hJ' : H a = _ := hJ
 refine go_spec L code388 rfl ?_
 repeat (refine gr trivial ?_)
 cases c1 : decide (2048 < j.n)
 case false =>
   rw [c1] at hk
   repeat (refine gr trivial ?_)
   exact resK_some (hk H (Fr.refl _ _))
 rw [c1] at hk
 repeat (refine gr trivial ?_)
 apply r_load (v := stE j.s); (focus rfl); (focus exact hJ); (focus rfl)
 repeat (refine gr trivial ?_)
 (apply r_call; (focus rfl))
 refine jimage_spec L j.s (by omega) (fun p hp => by have := hs.lt p hp; omega) (by omega) H _ fun X fX => ?_
 have hJX := hJ.fr0 fX
 refine r_nil ?_
 refine dk_cons rfl (rc_loadg (v := I j.n) rfl hJX rfl rfl) ?_
 repeat (refine gr trivial ?_)
 (apply r_call; (focus rfl))
 refine jlayF_spec L .no (imageS j.s) (by have := imageS_len j.s; omega) (fun r hr => by have := (chkR_ok (image_ok hs r hr).1).2.2.2.1; omega) X _ fun Y fY => ?_
 generalize layR (imageS j.s) = x at *
 refine r_nil ?_
 refine dk_cons rfl (rc_loadg (v := I j.n) rfl (hJX.fr0 fY) rfl rfl) ?_
 repeat (refine gr trivial ?_)
 exact resK_some (hk Y (fX.trans fY))
end Sm
namespace Sm
open Go
structure JS (H X : Heap) (b a : Nat) (h : Hd) (d : Dk) (j : Jn) : Prop where
 kd : KD X b h d
 kj : KJ X a b j
 fr : Fr [] H X
 nw : ∀ c ∈ a :: h.bs b, H c = none
 na : a ∉ h.bs b
theorem JS.ds {H X : Heap} {b a : Nat} {h : Hd} {d : Dk} {j : Jn} (s : JS H X b a h d j) : DS H X b h d := ⟨s.kd, s.fr, fun c hc => s.nw c (List.mem_cons_of_mem _ hc)⟩
theorem JS.fr0 {H X Y : Heap} {b a : Nat} {h : Hd} {d : Dk} {j : Jn} (s : JS H X b a h d j) (f : Fr [] X Y) : JS H Y b a h d j := ⟨s.kd.fr0 f, s.kj.fr0 f, s.fr.trans f, s.nw, s.na⟩
theorem JS.step {H X Y : Heap} {b a : Nat} {h h' : Hd} {d d' : Dk} {j j' : Jn} (s : JS H X b a h d j) (k : KD Y b h' d') (o : Own X Y (a :: h.bs b) (a :: h'.bs b)) (kj : KJ Y a b j') (na : a ∉ h'.bs b) : JS H Y b a h' d' j' :=
 ⟨k, kj, Fr.make2 fun c r _ hr => o.get (fun hm => by rw [s.nw c hm] at hr; cases hr) (s.fr.get (by simp) hr), fun c hc => (o.nw c hc).elim (s.nw c) fun h0 => s.fr.of_none h0, na⟩
theorem JS.dstep {H X Y : Heap} {b a : Nat} {h h' : Hd} {d d' : Dk} {j : Jn} (s : JS H X b a h d j) (k : KD Y b h' d') (o : Own X Y (h.bs b) (h'.bs b)) : JS H Y b a h' d' j := s.step k (o.cons a) (o.get s.na s.kj) (o.apart s.na s.kj)
theorem JS.opened {H X Y : Heap} {b a : Nat} {h h' : Hd} {d d' : Dk} {j' : Jn} (s : DS H X b h d) (k : KD Y b h' d') (o : Own X Y (h.bs b) (a :: h'.bs b)) (kj : KJ Y a b j') (na : a ∉ h'.bs b) : JS H Y b a h' d' j' :=
 ⟨k, kj, Fr.make2 fun c r _ hr => o.get (fun hm => by rw [s.nw c hm] at hr; cases hr) (s.fr.get (by simp) hr), fun c hc => (o.nw c hc).elim (s.nw c) fun h0 => s.fr.of_none h0, na⟩
def r0 : Rc := ⟨0, 0, [97], zs32, 3, 0⟩
def r1 : Rc := ⟨0, 0, [97], zs32, 0, 0⟩
def s1 : Sta := ⟨[⟨0, [97], zs32, 3, 0⟩], 1⟩
theorem ro0 : chkR r0 = 0 := by decide
theorem ro1 : chkR r1 = 0 := by decide
theorem jst0 : stepS z0 r0 = (s1, true) := by rfl
theorem jst1 : (stepS s1 r1).2 = false := by rfl
theorem ops3 : (openD (newD 1000)).1.ops = 3 := by decide
theorem img1 : (layR (imageS s1)).length ≤ 100 := by decide +kernel
theorem tmp12 : tempP ++ decB 12 = [46, 115, 117, 109, 112, 116, 101, 114, 45, 116, 49, 50] := by decide
attribute [local irreducible] csem rsem dsem fsem FD DR DF finS seqK blockK normK finK DK RK JK BR G3 resK Spec Tok Fr CV
theorem jawake_spec (L : Linked code) (C : JC L) : PureF L 378 [] (B true) := by
 intro H K hk
 obtain ⟨d1, e1, q1, f1, w1⟩ := open_new 1000 1000 (by decide)
 have ho := ops3
 rw [e1] at ho
 refine go_spec L code378 rfl ?_
 repeat (refine gr trivial ?_)
 (apply r_call; (focus rfl))
 refine dnew_spec L 1000 H _ fun b h0 X0 hb0 hD0 g0 => ?_
 have s0 : DS H X0 b h0 (newD 1000) := ⟨hD0, g0, hb0⟩
 repeat (refine gr trivial ?_)
 (apply r_call; (focus rfl))
 refine jopen_spec L C.cl b h0 (newD 1000) 0 0 (newD_wf 1000) (by omega) (by omega) X0 s0.kd _ fun X1 h1 hD1 o1 => ⟨fun hn => ?_, fun j hj a hJ oa na => ?_⟩
 · rw [e1] at hn; cases hn
 rw [e1] at hj hD1
 have hj : (⟨z0, 0, false⟩ : Jn) = j := Option.some.inj hj
 subst hj
 have t1 := JS.opened s0 hD1 oa hJ na
 rw [e1]
 clear hJ oa na hD1 o1
 repeat (refine gr trivial ?_)
 (apply r_call; (focus rfl))
 refine dops_spec L b h1 d1 X1 t1.kd _ ?_
 rw [show d1.ops = 3 from ho]
 repeat (refine gr trivial ?_)
 refine r_calm (x := .h (recE r0)) rfl rfl ?_
 repeat (refine gr trivial ?_)
 have hA := add_quiet q1 w1 r0 (fun _ _ => rfl) (by simp)
 have hA : AddR 1000 d1 z0 [] 0 5 0 r0 (addD d1 ⟨z0, 0, false⟩ r0) := hA
 (apply r_call; (focus rfl))
 refine jadd_spec L a b r0 ⟨z0, 0, false⟩ h1 d1 5 0 q1.wf (by omega) (by omega) (by omega) X1 t1.kd t1.kj t1.na (by decide) (by decide) (by decide) _ fun X2 h2 hD2 o2 hJ2 n2 => ?_
 have t2 := t1.step hD2 o2 hJ2 n2
 clear hD2 o2 hJ2 n2
 generalize addD d1 ⟨z0, 0, false⟩ r0 = A at *
 cases hA with
 | no p1 p2 p3 =>
   rcases p3 with p3 | p3
   · exact absurd ro0 p3
   · rw [jst0] at p3; cases p3
 | dn p1 p2 p3 p4 p5 p6 p7 => exact absurd f1 p7
 | ok p1 p2 p3 p4 p5 p6 p7 =>
 rw [p1]
 rw [p5] at t2
 have p7 := p7 f1
 rw [jst0] at p4 t2
 obtain ⟨d2, A2, A3⟩ := A
 dsimp only at p1 p4 p5 p6 p7 t2
 clear p5 p3 p2 p1
 repeat (refine gr trivial ?_)
 refine r_calm (x := .h (recE r1)) rfl rfl ?_
 repeat (refine gr trivial ?_)
 have hB : addD d2 ⟨s1, (([] ++ encR r0).length : Nat), false⟩ r1 = (d2, ⟨s1, (([] ++ encR r0).length : Nat), false⟩, 16) := by
   unfold addD
   rw [ro1, jst1]
   rfl
 have hel := encR_len ro0
 (apply r_call; (focus rfl))
 refine jadd_spec L a b r1 ⟨s1, (([] ++ encR r0).length : Nat), false⟩ h2 d2 8 520 p4.wf (by omega) (by omega) (by omega) X2 t2.kd t2.kj t2.na (by simp only [List.nil_append]; omega) (by decide) (by decide) _ fun X3 h3 hD3 o3 hJ3 n3 => ?_
 have t3 := t2.step hD3 o3 hJ3 n3
 clear hD3 o3 hJ3 n3
 rw [hB] at t3 ⊢
 repeat (refine gr trivial ?_)
 obtain ⟨sx, bx, ix, px, lx, ax⟩ := (p4.cr (P := fun t => t = s1) rfl).crash p4.wf 0 []
 subst px
 obtain ⟨d4, c4, e4, q4, f4, w4, l4⟩ := ax.opens
 have wc := crash_wf p4.wf 0 []
 (apply r_call; (focus rfl))
 refine Spec_weak (hs' := [ptr b, I 0, .sl .no 1 (([] : List UInt8).map U)]) (show WeakL [ptr b, I 0, .v (.slice none 0 0)] _ from ⟨Weak.refl _, Weak.refl _, Weak.nil' 1, trivial⟩) ?_
 refine dcrash_spec L C.cl b h3 d2 0 [] 8 520 p4.wf (by omega) (by omega) (by simp) X3 t3.kd _ fun X4 h4 hD4 o4 => ?_
 have t4 := t3.dstep hD4 o4
 clear hD4 o4
 generalize d2.crash 0 [] = dc at *
 repeat (refine gr trivial ?_)
 (apply r_call; (focus rfl))
 refine jopen_spec L C.cl b h4 dc 8 520 wc (by omega) (by omega) X4 t4.kd _ fun X5 h5 hD5 o5 => ⟨fun hn => ?_, fun j hj a2 hJ oa na => ?_⟩
 · rw [e4] at hn; cases hn
 rw [e4] at hj hD5
 have hj : (⟨s1, (c4.length : Int), false⟩ : Jn) = j := Option.some.inj hj
 subst hj
 have t5 := JS.opened t4.ds hD5 oa hJ na
 rw [e4]
 clear hJ oa na hD5 o5
 have hs1 : StOk s1 := q4.good.st
 repeat (refine gr trivial ?_)
 (apply r_call; (focus rfl))
 refine jstate_spec L a2 b _ (show s1.parts.length ≤ 1048576 by decide) X5 t5.kj _ fun X6 f6 => ?_
 have t6 := t5.fr0 f6
 dsimp only
 repeat (refine gr trivial ?_)
 rw [show ((s1.parts.length : Int) == 1) = true from rfl]
 repeat (refine gr trivial ?_)
 (apply r_call; (focus rfl))
 refine jstate_spec L a2 b _ (show s1.parts.length ≤ 1048576 by decide) X6 t6.kj _ fun X7 f7 => ?_
 have t7 := t6.fr0 f7
 dsimp only
 repeat (refine gr trivial ?_)
 rw [show (s1.next == 1) = true from rfl]
 repeat (refine gr trivial ?_)
 have himg := img1
 have hC := comp_quiet q4 (by omega) (by omega) (fun x => fr4_wf q4.wf x)
 (apply r_call; (focus rfl))
 refine jcomp_spec L C.cl a2 b _ h5 d4 13 520 q4.wf (by omega) (by omega) (by omega) X7 t7.kd t7.kj t7.na hs1 _ fun X8 h8 hD8 o8 hJ8 n8 => ?_
 have t8 := t7.step hD8 o8 hJ8 n8
 clear hD8 o8 hJ8 n8
 generalize compD d4 ⟨s1, (c4.length : Int), false⟩ = D at *
 rcases hC.go with ⟨z1, ⟨i8, z2⟩, z3, z4⟩ | ⟨z1, z2, z3⟩ | ⟨z1, z2⟩
 case inr.inl => exact absurd f4 z3
 case inr.inr => exact absurd w4 z2
 rw [z1]
 rw [z3] at t8
 repeat (refine gr trivial ?_)
 (apply r_call; (focus rfl))
 refine jlong_spec L a2 b _ hs1 X8 t8.kj _ fun X9 f9 => ?_
 have t9 := t8.fr0 f9
 rw [show longJ ⟨s1, ((layR (imageS s1)).length : Int), false⟩ = false by
   unfold longJ
   rw [decide_eq_false (show ¬ (2048 : Int) < ((layR (imageS s1)).length : Int) by omega)]
   rfl]
 repeat (refine gr trivial ?_)
 (apply r_call; (focus rfl))
 refine jtemp_spec L C 12 (by omega) X9 _ fun X10 f10 => ?_
 rw [tmp12]
 repeat (refine gr trivial ?_)
 exact resK_some (hk X10 (t9.fr.trans f10))
end Sm
