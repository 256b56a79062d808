/-
  J34
-/
import Derived.Test.YtegmmhldpmmkeaaGreatDoorSmJK
set_option linter.unusedVariables false
set_option linter.unusedSimpArgs false
set_option maxRecDepth 10000
set_option maxHeartbeats 4000000
namespace Sm
open Go
theorem quiet_fault {R : Int} {d : Dk} {s : Sta} {b : List UInt8} {i n m : Nat} (h : Quiet R d s b i n m) (k : Int) (hk : k ≤ 9223372036854775807) : Quiet R (d.fault k).1 s b i n m ∧ (d.fault k).1.fails = d.fails := by
 have hw := fault_wf h.wf k hk
 unfold Dk.fault at hw ⊢
 rw [if_neg (by rw [h.dn]; simp)] at hw ⊢
 split
 · exact ⟨h, rfl⟩
 · next h1 =>
   rw [if_neg h1] at hw
   exact ⟨⟨hw, h.dn, h.sure, h.loose, h.file, h.room, h.good⟩, rfl⟩
structure QF (H X : Heap) (b a : Nat) (n m : Nat) : Prop where
 ex : ∃ (now : Sta) (h : Hd) (d : Dk) (c : List UInt8) (i : Nat), JS H X b a h d ⟨now, (c.length : Int), false⟩ ∧ Quiet 1048576 d now c i n m ∧ d.wrong = -1 ∧ d.fails = -1
theorem long_img (s : Sta) : longJ ⟨s, ((layR (imageS s)).length : Int), false⟩ = false := by
 unfold longJ
 rw [decide_eq_false (show ¬ 2 * ((layR (imageS s)).length : Int) < ((layR (imageS s)).length : Int) by omega), Bool.and_false]
theorem img_zero {s : Sta} (h : StOk s) (h0 : ¬ 0 < s.next) : layR (imageS s) = [] := by
 have hn := h.nx
 have hp : s.parts = [] := by
   cases hp : s.parts with
   | nil => rfl
   | cons x l => have := h.lt x (by rw [hp]; simp); omega
 have e : s.next = 0 := by omega
 unfold imageS
 rw [hp, e]
 rfl
theorem quiet_read {R : Int} {d : Dk} {s : Sta} {b : List UInt8} {i n m : Nat} (h : Quiet R d s b i n m) : d.read freshP = ([], 8) := by
 unfold Dk.read
 have h2 : fileD d.now freshP = 8 := by unfold fileD; rw [h.now, getF0]
 rw [if_neg (by rw [h.dn]; simp), h2]
 rfl
attribute [local irreducible] csem rsem dsem fsem FD DR DF finS seqK blockK normK finK DK RK JK BR G3 resK Spec Tok Fr CV
theorem jcompacts_spec (L : Linked code) (C : JC L) (l : List Ac) (wr : UInt8) (hl : ∀ a ∈ l, okAc a) : PureF L 497 [.sl .no 44 (l.map acV), U wr] (B true) := by
 intro H K hk
 obtain ⟨d1, e1, q1, f1, w1⟩ := open_new 1048576 1048576 (by decide)
 refine go_spec L code497 rfl ?_
 repeat (refine gr trivial ?_)
 (apply r_call; (focus rfl))
 refine lfew_spec L l 40 (by omega) _ _ ?_
 cases c1 : fewJ l 40
 case false =>
   repeat (refine gr trivial ?_)
   (apply r_call; (focus rfl))
   refine jawake_spec L C H _ fun X1 g1 => ?_
   repeat (refine gr trivial ?_)
   exact resK_some (hk X1 g1)
 have hln := few_len (most := 40) c1
 have hsm := few_all c1
 repeat (refine gr trivial ?_)
 (apply r_call; (focus rfl))
 refine dnew_spec L 1048576 H _ fun b h0 X0 hb0 hD0 g0 => ?_
 have s0 : DS H X0 b h0 (newD 1048576) := ⟨hD0, g0, hb0⟩
 repeat (refine gr trivial ?_)
 (apply r_call; (focus rfl))
 refine jopen_spec L C.cl b h0 (newD 1048576) 0 0 (newD_wf 1048576) (by omega) (by omega) X0 s0.kd _ fun X1 h1 hD1 o1 => ⟨fun hn => ?_, fun j hj a hJ oa na => ?_⟩
 · rw [e1] at hn; cases hn
 rw [e1] at hj hD1
 have hj : (⟨z0, 0, false⟩ : Jn) = j := Option.some.inj hj
 subst hj
 have t1 := JS.opened s0 hD1 oa hJ na
 rw [e1]
 clear hJ oa na hD1 o1
 repeat (refine gr trivial ?_)
 refine c_loop (Spec_SMono L) (fun (k : Nat) => [(0, .h (.sl .no 44 (l.map acV))), (1, .h (U wr)), (5, .h (ptr b)), (6, .h (ptr a)), (8, .h (I k))]) (fun _ => []) (fun k X => k ≤ l.length ∧ QF H X b a (5 + 20 * k) (150000 + 520 * k)) (fun k => l.length - k) 0 ?_ ⟨by simp, ⟨_, _, _, [], 0, t1, q1.mono (by omega) (by omega), w1, f1⟩⟩ ?_
 · (refine leM ?_ ?_ ?_ <;> (repeat refine leS trivial ?_) <;> exact leE)
 clear t1 q1 f1 w1 e1 s0 hD0 hb0 g0
 rintro k X ⟨hkl, hQ⟩
 obtain ⟨now, h, d, c, i, t, q, w, fl⟩ := hQ.ex
 have hon : StOk now := q.good.st
 have hol := hon.len
 have hcl := q.bm
 have hN : (5 + 20 * k + 2) * (150000 + 520 * k) ≤ 900 * 171000 := Nat.mul_le_mul (by omega) (by omega)
 have hN2 : (5 + 20 * k) * (150000 + 520 * k) ≤ 900 * 171000 := Nat.mul_le_mul (by omega) (by omega)
 repeat (refine gr trivial ?_)
 (refine ct trivial ?_ ?_ <;> intro hc)
 · have hlt : k < l.length := by have := of_decide_eq_true hc; omega
   have hel : (l.map acV)[k]? = some (acV l[k]) := by rw [List.getElem?_map, List.getElem?_eq_getElem hlt]; rfl
   have hok : okAc l[k] := hl _ (List.getElem_mem hlt)
   have hsma := hsm _ (List.getElem_mem hlt)
   generalize l[k] = ac at *
   have hA := add_quiet q w ac.r (fun _ _ => hok) (by omega)
   repeat (refine gr trivial ?_)
   refine r_idx (cs := acC ac) rfl rfl rfl hel rfl ?_
   repeat (refine gr trivial ?_)
   refine r_loadr (v := recE ac.r) rfl rfl ?_
   (apply r_call; (focus rfl))
   refine lown_spec L ac.r X _ ?_
   repeat (refine gr trivial ?_)
   (apply r_call; (focus rfl))
   refine jadd_spec L a b ac.r ⟨now, (c.length : Int), false⟩ h d _ _ q.wf (by omega) (by omega) (by omega) X t.kd t.kj t.na (by dsimp only; omega) (by dsimp only; omega) (by omega) _ fun X2 h2 hD2 o2 hJ2 n2 => ?_
   have t2 := t.step hD2 o2 hJ2 n2
   clear hD2 o2 hJ2 n2
   generalize addD d ⟨now, (c.length : Int), false⟩ ac.r = A at *
   repeat (refine gr trivial ?_)
   refine k_n (k + 1) (by omega) ⟨hlt, ?_⟩ ?_
   · cases hA with
     | no p1 p2 p3 =>
       rw [p1] at t2
       exact ⟨_, _, _, c, i, t2, q.mono (by omega) (by omega), w, fl⟩
     | dn p1 p2 p3 p4 p5 p6 p7 => exact absurd fl p7
     | ok p1 p2 p3 p4 p5 p6 p7 =>
       rw [p5] at t2
       exact ⟨_, _, _, _, i, t2, p4.mono (by omega) (by omega), p6, p7 fl⟩
   (refine leM ?_ ?_ ?_ <;> (repeat refine leS trivial ?_) <;> exact leE)
 have himg := img_len hon
 have hkk : k ≤ 40 := by omega
 repeat (refine gr trivial ?_)
 (apply r_call; (focus rfl))
 refine jstate_spec L a b _ (show now.parts.length ≤ 1048576 by omega) X t.kj _ fun X2 f2 => ?_
 have t2 := t.fr0 f2
 dsimp only
 repeat (refine gr trivial ?_)
 (apply r_call; (focus rfl))
 refine jsize_spec L a b _ X2 t2.kj _ ?_
 dsimp only
 repeat (refine gr trivial ?_)
 refine r_storeW (v := stE now) (cs' := stC now) rfl rfl rfl rfl rfl rfl rfl rfl ?_
 repeat (refine gr trivial ?_)
 have hz := tmod8 (wr.toNat : Int)
 generalize IntKind.i64.wrap ((wr.toNat : Int).tmod 8) = zz at *
 obtain ⟨qf, ff⟩ := quiet_fault q zz hz
 have ff := ff.trans fl
 (apply r_call; (focus rfl))
 refine dfault_spec L b h d zz X2 t2.kd _ fun X3 hD3 o3 => ?_
 have t3 := t2.dstep hD3 o3
 clear hD3 o3
 generalize (d.fault zz).1 = df at *
 have hC := comp_quiet qf (by omega) (by omega) (fun x => fr4_wf qf.wf x)
 repeat (refine gr trivial ?_)
 (apply r_call; (focus rfl))
 refine jcomp_spec L C.cl a b _ h df _ _ qf.wf (by omega) (by omega) (by omega) X3 t3.kd t3.kj t3.na hon _ fun X4 h4 hD4 o4 hJ4 n4 => ?_
 have t4 := t3.step hD4 o4 hJ4 n4
 clear hD4 o4 hJ4 n4
 generalize compD df ⟨now, (c.length : Int), false⟩ = D at *
 have hst := hC.st
 have hgo : (D.2.2 = 0 ∧ D.2.1 = ⟨now, ((layR (imageS now)).length : Int), false⟩) ∨ D.2.2 = 12 := by
   rcases hC.go with ⟨z1, ⟨i8, z2⟩, z3, z4⟩ | ⟨z1, z2, z3⟩ | ⟨z1, z2⟩
   · exact .inl ⟨z1, z3⟩
   · exact absurd ff z3
   · exact .inr z1
 obtain ⟨sx, bx, ix, px, lx, ax⟩ := hC.cr.crash hC.wf 99 []
 rw [px] at ax
 obtain ⟨d6, c6, e6, q6, f6, w6, l6⟩ := ax.opens
 have wc := WF_sz (crash_wf hC.wf 99 []) (fun y hy => (ax.wf.sz y hy).1)
 have hwf := hC.wf
 clear hC q qf
 obtain ⟨d4, j4, e4⟩ := D
 obtain ⟨s4, n4, b4⟩ := j4
 dsimp only at hst hgo hwf e6 t4 wc
 subst hst
 repeat (refine gs trivial ?_)
 refine c_join (Spec_SMono L) (fun (_ : Unit) => [(0, .h (.sl .no 44 (l.map acV))), (1, .h (U wr)), (5, .h (ptr b)), (6, .h (ptr a)), (9, .lp 0 0), (10, .h (I c.length))]) (fun _ => [(0, stC s4)]) (fun _ V => JS H V b a h4 d4 ⟨s4, n4, b4⟩) ?_ ?_
 · repeat (refine gr trivial ?_)
   apply r_loadb (v := stE s4); (focus rfl); (focus rfl); (focus rfl)
   repeat (refine gr trivial ?_)
   (apply r_call; (focus rfl))
   refine jstate_spec L a b _ (show s4.parts.length ≤ 1048576 by omega) X4 t4.kj _ fun X5 f5 => ?_
   have t5 := t4.fr0 f5
   dsimp only
   repeat (refine gr trivial ?_)
   (apply r_call; (focus rfl))
   refine jsame_spec L s4 s4 (by omega) (by omega) X5 _ fun X6 f6b => ?_
   have t6 := t5.fr0 f6b
   rw [sameS_refl]
   repeat (refine gr trivial ?_)
   rcases hgo with ⟨z1, z2⟩ | z1
   · subst z1
     rw [show ((0 : Int) != 0) = false from rfl]
     repeat (refine gr trivial ?_)
     (apply r_call; (focus rfl))
     refine jlong_spec L a b _ hon X6 t6.kj _ fun X7 f7 => ?_
     have t7 := t6.fr0 f7
     rw [show longJ ⟨s4, n4, b4⟩ = false by rw [z2]; exact long_img s4]
     repeat (refine gr trivial ?_)
     refine j_n () t7 ?_
     (refine leM ?_ ?_ ?_ <;> (repeat refine leS trivial ?_) <;> exact leE)
   · subst z1
     rw [show ((12 : Int) != 0) = true from rfl]
     repeat (refine gr trivial ?_)
     refine j_n () t6 ?_
     (refine leM ?_ ?_ ?_ <;> (repeat refine leS trivial ?_) <;> exact leE)
 rintro - V t7
 repeat (refine gr trivial ?_)
 (apply r_call; (focus rfl))
 refine Spec_weak (hs' := [ptr b, I 99, .sl .no 1 (([] : List UInt8).map U)]) (show WeakL [ptr b, I 99, .v (.slice none 0 0)] _ from ⟨Weak.refl _, Weak.refl _, Weak.nil' 1, trivial⟩) ?_
 refine dcrash_spec L C.cl b h4 d4 99 [] _ _ hwf (by omega) (by omega) (by simp) V t7.kd _ fun X8 h8 hD8 o8 => ?_
 have t8 := t7.dstep hD8 o8
 clear hD8 o8
 generalize d4.crash 99 [] = dc at *
 repeat (refine gr trivial ?_)
 (apply r_call; (focus rfl))
 refine jopen_spec L C.cl b h8 dc _ _ wc (by omega) (by omega) X8 t8.kd _ fun X9 h9 hD9 o9 => ⟨fun hn => ?_, fun j hj a2 hJ oa na => ?_⟩
 · rw [e6] at hn; cases hn
 rw [e6] at hj hD9
 have hj : (⟨s4, (c6.length : Int), false⟩ : Jn) = j := Option.some.inj hj
 subst hj
 have t9 := JS.opened t8.ds hD9 oa hJ na
 rw [e6]
 clear hJ oa na hD9 o9
 have hN3 : (5 + 20 * k + 8 + 5 + 2) * (150000 + 520 * k) ≤ 900 * 171000 := Nat.mul_le_mul (by omega) (by omega)
 have hb6 := q6.bm
 have hC := comp_quiet q6 (by omega) (by omega) (fun x => fr4_wf q6.wf x)
 repeat (refine gs trivial ?_)
 refine c_join (Spec_SMono L) (fun (_ : Unit) => [(5, .h (ptr b)), (9, .lp 0 0), (10, .h (I c.length)), (12, .h (ptr a2))]) (fun _ => [(0, stC s4)]) (fun _ V => ∃ h d i, JS H V b a2 h d ⟨s4, ((layR (imageS s4)).length : Int), false⟩ ∧ Quiet 1048576 d s4 (layR (imageS s4)) i (5 + 20 * k + 8 + 5 + 8) (150000 + 520 * k)) ?_ ?_
 · repeat (refine gr trivial ?_)
   apply r_loadb (v := stE s4); (focus rfl); (focus rfl); (focus rfl)
   repeat (refine gr trivial ?_)
   (apply r_call; (focus rfl))
   refine jstate_spec L a2 b _ (show s4.parts.length ≤ 1048576 by omega) X9 t9.kj _ fun X10 f10 => ?_
   have t10 := t9.fr0 f10
   dsimp only
   repeat (refine gr trivial ?_)
   (apply r_call; (focus rfl))
   refine jsame_spec L s4 s4 (by omega) (by omega) X10 _ fun X11 f11 => ?_
   have t11 := t10.fr0 f11
   rw [sameS_refl]
   repeat (refine gr trivial ?_)
   (apply r_call; (focus rfl))
   refine jcomp_spec L C.cl a2 b _ h9 d6 _ _ q6.wf (by omega) (by omega) (by omega) X11 t11.kd t11.kj t11.na hon _ fun X12 h12 hD12 o12 hJ12 n12 => ?_
   have t12 := t11.step hD12 o12 hJ12 n12
   clear hD12 o12 hJ12 n12
   generalize compD d6 ⟨s4, (c6.length : Int), false⟩ = D at *
   rcases hC.go with ⟨z1, ⟨i8, z2⟩, z3, z4⟩ | ⟨z1, z2, z3⟩ | ⟨z1, z2⟩
   case inr.inl => exact absurd f6 z3
   case inr.inr => exact absurd w6 z2
   rw [z1]
   rw [z3] at t12
   repeat (refine gr trivial ?_)
   refine j_n () ⟨_, _, i8, t12, z2⟩ ?_
   (refine leM ?_ ?_ ?_ <;> (repeat refine leS trivial ?_) <;> exact leE)
 rintro - V2 ⟨h13, d13, i13, t13, q13⟩
 have hrd := quiet_read q13
 repeat (refine gr trivial ?_)
 (apply r_call; (focus rfl))
 refine dreadF_spec L b h13 d13 freshP _ _ q13.wf (by omega) V2 t13.kd _ fun X14 f14 => ?_
 have t14 := t13.fr0 f14
 rw [hrd]
 repeat (refine gr trivial ?_)
 apply r_loadb (v := stE s4); (focus rfl); (focus rfl); (focus rfl)
 repeat (refine gr trivial ?_)
 (apply r_call; (focus rfl))
 refine jstate_spec L a2 b _ (show s4.parts.length ≤ 1048576 by omega) X14 t14.kj _ fun X15 f15 => ?_
 have t15 := t14.fr0 f15
 dsimp only
 repeat (refine gr trivial ?_)
 (apply r_call; (focus rfl))
 refine jsame_spec L s4 s4 (by omega) (by omega) X15 _ fun X16 f16 => ?_
 have t16 := t15.fr0 f16
 rw [sameS_refl]
 repeat (refine gr trivial ?_)
 (apply r_call; (focus rfl))
 refine jsize_spec L a2 b _ X16 t16.kj _ ?_
 dsimp only
 repeat (refine gr trivial ?_)
 cases e1 : decide (((layR (imageS s4)).length : Int) ≤ (c.length : Int))
 · have hnx : decide (0 < s4.next) = true := by
     refine decide_eq_true ?_
     rcases Decidable.em (0 < s4.next) with h | h
     · exact h
     · have e1 := of_decide_eq_false e1
       rw [img_zero hon h] at e1
       exact absurd (Int.natCast_nonneg _) e1
   repeat (refine gr trivial ?_)
   rw [hnx]
   repeat (refine gr trivial ?_)
   (apply r_call; (focus rfl))
   refine jawake_spec L C X16 _ fun X17 g17 => ?_
   repeat (refine gr trivial ?_)
   exact resK_some (hk X17 (t16.fr.trans g17))
 · repeat (refine gr trivial ?_)
   (apply r_call; (focus rfl))
   refine jawake_spec L C X16 _ fun X17 g17 => ?_
   repeat (refine gr trivial ?_)
   exact resK_some (hk X17 (t16.fr.trans g17))
end Sm
