/-
  J33
-/
import Derived.Test.YtegmmhldpmmkeaaGreatDoorSmJJ
set_option linter.unusedVariables false
set_option linter.unusedSimpArgs false
set_option maxRecDepth 10000
set_option maxHeartbeats 4000000
namespace Sm
open Go
theorem sumB_refl (a : List UInt8) : sumB a a = true := by simp [sumB]
theorem ptB_refl (a : Pt) : ptB a a = true := by simp [ptB, sumB_refl]
theorem ptsB_refl : ∀ l : List Pt, ptsB l l = true
 | [] => rfl
 | x :: l => by rw [ptsB, ptB_refl, ptsB_refl l]; rfl
theorem sameS_refl (s : Sta) : sameS s s = true := by simp [sameS, ptsB_refl]
theorem Quiet.mono {R : Int} {d : Dk} {s : Sta} {b : List UInt8} {i n m n' m' : Nat} (h : Quiet R d s b i n m) (h1 : n ≤ n') (h2 : m ≤ m') : Quiet R d s b i n' m' := ⟨h.wf.mono h1 h2, h.dn, h.sure, h.loose, h.file, h.room, h.good⟩
theorem Cr.le {R : Int} {m m' : Nat} {d : Dk} {P : Sta → Prop} (h : Cr R m d P) (hm : m ≤ m') : Cr R m' d P := ⟨h.1, fun y hy => Nat.le_trans (h.2.1 y hy) hm, h.2.2⟩
def okAc (a : Ac) : Prop := a.r.sum.length = 32
structure QJ (H X : Heap) (b a : Nat) (now : Sta) (n m : Nat) : Prop where
 ex : ∃ (h : Hd) (d : Dk) (c : List UInt8) (i : Nat), JS H X b a h d ⟨now, (c.length : Int), false⟩ ∧ Quiet 1048576 d now c i n m ∧ d.wrong = -1
structure DJ (H X : Heap) (b a : Nat) (now nx : Sta) (n m : Nat) : Prop where
 ex : ∃ (h : Hd) (d : Dk) (j : Jn), JS H X b a h d j ∧ d.WF n m ∧ ((d.down = false ∧ ∃ (c : List UInt8) (i : Nat), j = ⟨now, (c.length : Int), false⟩ ∧ Quiet 1048576 d now c i n m ∧ d.wrong = -1) ∨ (d.down = true ∧ Cr 1048576 m d fun t => t = now ∨ t = nx))
 o1 : StOk now
 o2 : StOk nx
theorem few_len {l : List Ac} {most : Nat} (h : fewJ l most = true) : l.length ≤ most := by
 unfold fewJ at h
 simp only [Bool.and_eq_true, Bool.not_eq_true', decide_eq_false_iff_not] at h
 omega
theorem few_all {l : List Ac} {most : Int} (h : fewJ l most = true) : ∀ a ∈ l, a.r.path.length ≤ 300 ∧ a.d.b.length ≤ 300 ∧ a.d.p.length ≤ 300 ∧ a.d.q.length ≤ 300 ∧ a.r.id ≤ 2199023255552 := by
 unfold fewJ at h
 simp only [Bool.and_eq_true] at h
 intro a ha
 have := List.all_eq_true.mp h.2 a ha
 rw [smallJ_eq] at this
 simp only [Bool.and_eq_true, Bool.not_eq_true', decide_eq_false_iff_not] at this
 omega
def nxS (now : Sta) (r : Rc) : Sta := bif chkR r == 0 then (stepS now r).1 else now
theorem quiet_fail {R : Int} {d : Dk} {s : Sta} {b : List UInt8} {i n m : Nat} (h : Quiet R d s b i n m) (k : Int) (hk : k ≤ 9223372036854775807) (done : Bool) : Quiet R (d.fail k done).1 s b i n m ∧ (d.fail k done).1.wrong = d.wrong := by
 have hw := fail_wf h.wf k hk done
 unfold Dk.fail at hw ⊢
 rw [if_neg (by rw [h.dn]; simp)] at hw ⊢
 split
 · exact ⟨h, rfl⟩
 · next h1 =>
   rw [if_neg h1] at hw
   exact ⟨⟨hw, h.dn, h.sure, h.loose, h.file, h.room, h.good⟩, rfl⟩
theorem tmod8 (a : Int) : IntKind.i64.wrap (a.tmod 8) ≤ 9223372036854775807 := by
 have h1 := Int.tmod_lt_of_pos a (show (0 : Int) < 8 by omega)
 have h2 : -8 < a.tmod 8 := by
   have := Int.tmod_lt_of_pos (-a) (show (0 : Int) < 8 by omega)
   rw [Int.neg_tmod] at this; omega
 rw [wrap_in (by omega) (by omega)]
 omega
attribute [local irreducible] csem rsem dsem fsem FD DR DF finS seqK blockK normK finK DK RK JK BR G3 resK Spec Tok Fr CV
theorem jkeeps_spec (L : Linked code) (C : JC L) (l : List Ac) (hl : ∀ a ∈ l, okAc a) : PureF L 496 [.sl .no 44 (l.map acV)] (B true) := by
 intro H K hk
 obtain ⟨d1, e1, q1, f1, w1⟩ := open_new 1048576 1048576 (by decide)
 refine go_spec L code496 rfl ?_
 repeat (refine gr trivial ?_)
 (apply r_call; (focus rfl))
 refine lfew_spec L l 40 (by omega) _ _ ?_
 cases c1 : fewJ l 40
 case false =>
   repeat (refine gr trivial ?_)
   (apply r_call; (focus rfl))
   refine jawake_spec L C H _ fun X1 g1 => ?_
   repeat (refine gr trivial ?_)
   exact resK_some (hk X1 g1)
 have hln := few_len (most := 40) c1
 have hsm := few_all c1
 repeat (refine gr trivial ?_)
 (apply r_call; (focus rfl))
 refine dnew_spec L 1048576 H _ fun b h0 X0 hb0 hD0 g0 => ?_
 have s0 : DS H X0 b h0 (newD 1048576) := ⟨hD0, g0, hb0⟩
 repeat (refine gr trivial ?_)
 (apply r_call; (focus rfl))
 refine jopen_spec L C.cl b h0 (newD 1048576) 0 0 (newD_wf 1048576) (by omega) (by omega) X0 s0.kd _ fun X1 h1 hD1 o1 => ⟨fun hn => ?_, fun j hj a hJ oa na => ?_⟩
 · rw [e1] at hn; cases hn
 rw [e1] at hj hD1
 have hj : (⟨z0, 0, false⟩ : Jn) = j := Option.some.inj hj
 subst hj
 have t1 := JS.opened s0 hD1 oa hJ na
 rw [e1]
 clear hJ oa na hD1 o1
 repeat (refine gr trivial ?_)
 refine c_loop (Spec_SMono L) (fun (q : Nat × Nat × Sta × Sta) => [(0, .h (.sl .no 44 (l.map acV))), (3, .h (ptr b)), (4, .h (ptr q.2.1)), (6, .lp 0 0), (7, .lp 1 0), (8, .h (I q.1))]) (fun q => [(0, stC q.2.2.1), (1, stC q.2.2.2)]) (fun q X => q.1 ≤ l.length ∧ QJ H X b q.2.1 q.2.2.1 (5 + 20 * q.1) (150000 + 520 * q.1)) (fun q => l.length - q.1) (0, a, z0, z0) ?_ ⟨by simp, ⟨_, _, [], 0, t1, q1.mono (by omega) (by omega), w1⟩⟩ ?_
 · refine leM ?_ (leB_w rfl ⟨Weak.nil' 36, Weak.refl _, trivial⟩ rfl (leB_w rfl ⟨Weak.nil' 36, Weak.refl _, trivial⟩ rfl leB_nil)) ?_ <;> (repeat refine leS trivial ?_) <;> exact leE
 clear t1 q1 f1 w1 e1 s0 hD0 hb0 g0
 rintro ⟨k, a, now, nx0⟩ X ⟨hkl, hQ⟩
 obtain ⟨h, d, c, i, t, q, w⟩ := hQ.ex
 dsimp only at hkl t q ⊢
 have hon : StOk now := q.good.st
 repeat (refine gr trivial ?_)
 (refine ct trivial ?_ ?_ <;> intro hc)
 · have hlt : k < l.length := by have := of_decide_eq_true hc; omega
   have hel : (l.map acV)[k]? = some (acV l[k]) := by rw [List.getElem?_map, List.getElem?_eq_getElem hlt]; rfl
   have ha := hl _ (List.getElem_mem hlt)
   have hsma := hsm _ (List.getElem_mem hlt)
   generalize l[k] = ac at *
   repeat (refine gr trivial ?_)
   refine r_idx (cs := acC ac) rfl rfl rfl hel rfl ?_
   refine r_loadr (v := acV ac) rfl rfl ?_
   repeat (refine gr trivial ?_)
   refine r_storeW (v := acV ac) (cs' := acC ac) rfl rfl rfl rfl rfl rfl rfl rfl ?_
   repeat (refine gr trivial ?_)
   apply r_loadb (v := stE now); (focus rfl); (focus rfl); (focus rfl)
   refine r_storeW (v := stE now) (cs' := stC now) rfl rfl rfl rfl rfl rfl rfl rfl ?_
   repeat (refine gs trivial ?_)
   refine c_join (Spec_SMono L) (fun (w : Sta × Sta) => [(0, .h (.sl .no 44 (l.map acV))), (3, .h (ptr b)), (4, .h (ptr a)), (6, .lp 0 0), (7, .lp 1 0), (8, .h (I k)), (9, .lp 2 0)]) (fun w => [(0, stC w.1), (1, stC w.2), (2, acC ac)]) (fun w V => DJ H V b a w.1 w.2 (5 + 20 * k + 10) (150000 + 520 * k + 520)) ?_ ?_
   · repeat (refine gs trivial ?_)
     have hk8 : ((ac.kind.toNat : Int).tmod 8) = ((ac.kind.toNat % 8 : Nat) : Int) := by rw [Int.tmod_eq_emod_of_nonneg (by omega)]; rfl
     rw [hk8]
     generalize ac.kind.toNat % 8 = kk at *
     refine c_join (Spec_SMono L) (fun (_ : Unit) => [(0, .h (.sl .no 44 (l.map acV))), (3, .h (ptr b)), (4, .h (ptr a)), (6, .lp 0 0), (7, .lp 1 0), (8, .h (I k)), (9, .lp 2 0), (43, .h (.v (.int .u8 (kk : Int)))), (64, .h (B ((kk : Int) == 6 || (kk : Int) == 7)))]) (fun _ => [(0, stC now), (1, stC now), (2, acC ac)]) (fun _ V => V = X) ?_ ?_
     · repeat (refine gs trivial ?_)
       cases d1 : (kk : Int) == 6
       · repeat (refine gs trivial ?_)
         refine j_n () rfl ?_
         (refine leM ?_ ?_ ?_ <;> (repeat refine leS trivial ?_) <;> exact leE)
       · repeat (refine gs trivial ?_)
         refine j_n () rfl ?_
         (refine leM ?_ ?_ ?_ <;> (repeat refine leS trivial ?_) <;> exact leE)
     rintro - V rfl
     cases d1 : (kk : Int) == 6 || (kk : Int) == 7
     case true =>
       obtain ⟨sx, bx, ix, px, lx, ax⟩ := (q.cr (P := fun t => t = now) rfl).crash q.wf ac.d.n ac.d.b
       rw [px] at ax
       obtain ⟨d4, c4, e4, q4, f4, w4, l4⟩ := ax.opens
       have wc := crash_wf q.wf ac.d.n ac.d.b
       repeat (refine gr trivial ?_)
       (apply r_call; (focus rfl))
       refine dcrash_spec L C.cl b h d ac.d.n ac.d.b _ _ q.wf (by omega) (by omega) (by omega) V t.kd _ fun X4 h4 hD4 o4 => ?_
       have t4 := t.dstep hD4 o4
       clear hD4 o4
       generalize d.crash ac.d.n ac.d.b = dc at *
       repeat (refine gr trivial ?_)
       (apply r_call; (focus rfl))
       refine jopen_spec L C.cl b h4 dc _ _ wc (by omega) (by omega) X4 t4.kd _ fun X5 h5 hD5 o5 => ⟨fun hn => ?_, fun j hj a2 hJ oa na => ?_⟩
       · rw [e4] at hn; cases hn
       rw [e4] at hj hD5
       have hj : (⟨now, (c4.length : Int), false⟩ : Jn) = j := Option.some.inj hj
       subst hj
       have t5 := JS.opened t4.ds hD5 oa hJ na
       rw [e4]
       clear hJ oa na hD5 o5
       have hs1 := hon.len
       repeat (refine gr trivial ?_)
       apply r_loadb (v := stE now); (focus rfl); (focus rfl); (focus rfl)
       repeat (refine gr trivial ?_)
       (apply r_call; (focus rfl))
       refine jstate_spec L a2 b _ (show now.parts.length ≤ 1048576 by omega) X5 t5.kj _ fun X6 f6 => ?_
       have t6 := t5.fr0 f6
       dsimp only
       repeat (refine gr trivial ?_)
       (apply r_call; (focus rfl))
       refine jsame_spec L now now (by omega) (by omega) X6 _ fun X7 f7 => ?_
       have t7 := t6.fr0 f7
       rw [sameS_refl]
       repeat (refine gr trivial ?_)
       refine k_n (k + 1, a2, now, now) (by dsimp only; omega) ⟨hlt, ⟨_, _, c4, ix, t7, q4.mono (by omega) (by omega), w4⟩⟩ ?_
       (refine leM ?_ ?_ ?_ <;> (repeat refine leS trivial ?_) <;> exact leE)
     repeat (refine gr trivial ?_)
     cases d2 : (kk : Int) == 5
     case true =>
       repeat (refine gr trivial ?_)
       have hz := tmod8 (IntKind.u64.wrap ac.d.n)
       generalize IntKind.i64.wrap ((IntKind.u64.wrap ac.d.n).tmod 8) = zz at *
       obtain ⟨qf, wf⟩ := quiet_fail q zz hz ac.d.done
       (apply r_call; (focus rfl))
       refine dfail_spec L b h d zz ac.d.done V t.kd _ fun Y hY oY => ?_
       have t4 := t.dstep hY oY
       repeat (refine gr trivial ?_)
       refine k_n (k + 1, a, now, now) (by dsimp only; omega) ⟨hlt, ⟨_, _, c, i, t4, qf.mono (by omega) (by omega), wf.trans w⟩⟩ ?_
       (refine leM ?_ ?_ ?_ <;> (repeat refine leS trivial ?_) <;> exact leE)
     repeat (refine gr trivial ?_)
     cases d3 : (kk : Int) == 4
     case true =>
       have himg := img_len hon
       have hC := comp_quiet q (by have := q.bm; omega) (by omega) (fun x => fr4_wf q.wf x)
       repeat (refine gr trivial ?_)
       (apply r_call; (focus rfl))
       have hN : (5 + 20 * k + 2) * (150000 + 520 * k) ≤ 900 * 171000 := Nat.mul_le_mul (by omega) (by omega)
       refine jcomp_spec L C.cl a b _ h d _ _ q.wf (by omega) (by omega) (by omega) V t.kd t.kj t.na hon _ fun X8 h8 hD8 o8 hJ8 n8 => ?_
       have t8 := t.step hD8 o8 hJ8 n8
       clear hD8 o8 hJ8 n8
       generalize compD d ⟨now, (c.length : Int), false⟩ = D at *
       repeat (refine gs trivial ?_)
       refine j_n (now, now) ⟨⟨_, _, _, t8, hC.wf.mono (by omega) (by omega), ?_⟩, hon, hon⟩ ?_
       · rcases hC.go with ⟨z1, ⟨i8, z2⟩, z3, z4⟩ | ⟨z1, z2, z3⟩ | ⟨z1, z2⟩
         · exact .inl ⟨z2.dn, _, i8, z3, z2.mono (by omega) (by omega), z4.2 w⟩
         · exact .inr ⟨z2, (hC.cr.le (by omega)).mono fun s hs => .inl hs⟩
         · exact absurd w z2
       (refine leM ?_ ?_ ?_ <;> (repeat refine leS trivial ?_) <;> exact leE)
     have hok : okAc ac := ha
     have hrl : ac.r.path.length ≤ 1048576 := by omega
     have hnx : StOk (nxS now ac.r) := by
       unfold nxS
       cases e0 : chkR ac.r == 0
       · exact hon
       · exact stepS_ok hon (by simpa using e0) fun _ => hok
     have hnl := hnx.len
     have hol := hon.len
     repeat (refine gs trivial ?_)
     refine c_join (Spec_SMono L) (fun (_ : Unit) => [(0, .h (.sl .no 44 (l.map acV))), (3, .h (ptr b)), (4, .h (ptr a)), (6, .lp 0 0), (7, .lp 1 0), (8, .h (I k)), (9, .lp 2 0)]) (fun _ => [(0, stC now), (1, stC (nxS now ac.r)), (2, acC ac)]) (fun _ Y => Fr [] V Y) ?_ ?_
     · repeat (refine gs trivial ?_)
       apply r_loadb (v := recE ac.r); (focus rfl); (focus rfl); (focus rfl)
       (apply r_call; (focus rfl))
       refine lown_spec L ac.r V _ ?_
       repeat (refine gs trivial ?_)
       (apply r_call; (focus rfl))
       refine checkR_spec L ac.r hrl V _ fun Y1 g1 => ?_
       repeat (refine gs trivial ?_)
       cases e0 : chkR ac.r == 0
       · repeat (refine gs trivial ?_)
         refine j_n () g1 ?_
         refine leM ?_ (leB_eq rfl rfl (leB_eq rfl (show stC now = stC (nxS now ac.r) by unfold nxS; rw [e0]; rfl) (leB_eq rfl rfl leB_nil))) ?_ <;> (repeat refine leS trivial ?_) <;> exact leE
       · have e0' : chkR ac.r = 0 := by simpa using e0
         obtain ⟨u1, u2, u3, u4, u5, u6, u7, u8⟩ := chkR_ok e0'
         repeat (refine gr trivial ?_)
         apply r_loadb (v := stE now); (focus rfl); (focus rfl); (focus rfl)
         repeat (refine gr trivial ?_)
         apply r_loadb (v := recE ac.r); (focus rfl); (focus rfl); (focus rfl)
         repeat (refine gr trivial ?_)
         (apply r_call; (focus rfl))
         refine lown_spec L ac.r Y1 _ ?_
         repeat (refine gr trivial ?_)
         (apply r_call; (focus rfl))
         refine jstep_spec L now ac.r (by omega) u2 u3 Y1 _ fun Y2 g2 => ?_
         repeat (refine gr trivial ?_)
         refine r_storeW (v := stE (stepS now ac.r).1) (cs' := stC (stepS now ac.r).1) rfl rfl rfl rfl rfl rfl rfl rfl ?_
         repeat (refine gs trivial ?_)
         refine j_n () (g1.trans g2) ?_
         refine leM ?_ (leB_eq rfl rfl (leB_eq rfl (show stC (stepS now ac.r).1 = stC (nxS now ac.r) by unfold nxS; rw [e0]; rfl) (leB_eq rfl rfl leB_nil))) ?_ <;> (repeat refine leS trivial ?_) <;> exact leE
     rintro - Y gY
     have tY := t.fr0 gY
     have hA := add_quiet q w ac.r (fun _ _ => hok) (by have := q.bm; omega)
     have hN : (5 + 20 * k) * (150000 + 520 * k) ≤ 900 * 171000 := Nat.mul_le_mul (by omega) (by omega)
     have hcl := q.bm
     repeat (refine gs trivial ?_)
     apply r_loadb (v := recE ac.r); (focus rfl); (focus rfl); (focus rfl)
     (apply r_call; (focus rfl))
     refine lown_spec L ac.r Y _ ?_
     repeat (refine gs trivial ?_)
     (apply r_call; (focus rfl))
     refine jadd_spec L a b ac.r ⟨now, (c.length : Int), false⟩ h d _ _ q.wf (by omega) (by omega) (by omega) Y tY.kd tY.kj tY.na (by dsimp only; omega) (by dsimp only; omega) hrl _ fun X2 h2 hD2 o2 hJ2 n2 => ?_
     have t2 := tY.step hD2 o2 hJ2 n2
     clear hD2 o2 hJ2 n2
     generalize addD d ⟨now, (c.length : Int), false⟩ ac.r = A at *
     repeat (refine gs trivial ?_)
     cases hA with
     | no p1 p2 p3 =>
       rw [show (A.2.2 == 0) = false by simpa using p2]
       rw [p1] at t2
       repeat (refine gs trivial ?_)
       refine j_n (now, nxS now ac.r) ⟨⟨_, _, _, t2, q.wf.mono (by omega) (by omega), .inl ⟨q.dn, c, i, rfl, q.mono (by omega) (by omega), w⟩⟩, hon, hnx⟩ ?_
       (refine leM ?_ ?_ ?_ <;> (repeat refine leS trivial ?_) <;> exact leE)
     | dn p1 p2 p3 p4 p5 p6 p7 =>
       rw [show (A.2.2 == 0) = false by simpa using p1]
       have en : nxS now ac.r = (stepS now ac.r).1 := by unfold nxS; rw [p2]; rfl
       repeat (refine gs trivial ?_)
       refine j_n (now, nxS now ac.r) ⟨⟨_, _, _, t2, p6.mono (by omega) (by omega), .inr ⟨p4, by rw [en]; exact p5⟩⟩, hon, hnx⟩ ?_
       (refine leM ?_ ?_ ?_ <;> (repeat refine leS trivial ?_) <;> exact leE)
     | ok p1 p2 p3 p4 p5 p6 p7 =>
       rw [show (A.2.2 == 0) = true by simpa using p1]
       have en : nxS now ac.r = (stepS now ac.r).1 := by unfold nxS; rw [p2]; rfl
       rw [p5] at t2
       repeat (refine gr trivial ?_)
       apply r_loadb (v := stE (nxS now ac.r)); (focus rfl); (focus rfl); (focus rfl)
       refine r_storeW (v := stE (nxS now ac.r)) (cs' := stC (nxS now ac.r)) rfl rfl rfl rfl rfl rfl rfl rfl ?_
       repeat (refine gs trivial ?_)
       rw [← en] at t2 p4
       refine j_n (nxS now ac.r, nxS now ac.r) ⟨⟨_, _, _, t2, p4.wf.mono (by omega) (by omega), .inl ⟨p4.dn, _, i, rfl, p4.mono (by omega) (by omega), p6⟩⟩, hnx, hnx⟩ ?_
       (refine leM ?_ ?_ ?_ <;> (repeat refine leS trivial ?_) <;> exact leE)
   clear hQ t q w hon
   rintro ⟨now2, nx⟩ V hDJ
   obtain ⟨h, d, j, t, wf, cs⟩ := hDJ.ex
   have on := hDJ.o1
   have ox := hDJ.o2
   have onl := on.len
   have oxl := ox.len
   dsimp only at t wf cs on ox onl oxl ⊢
   refine c_join (Spec_SMono L) (fun (w : Nat × Sta × Sta) => [(0, .h (.sl .no 44 (l.map acV))), (3, .h (ptr b)), (4, .h (ptr w.1)), (6, .lp 0 0), (7, .lp 1 0), (8, .h (I k))]) (fun w => [(0, stC w.2.1), (1, stC w.2.2)]) (fun w V => QJ H V b w.1 w.2.1 (5 + 20 * k + 20) (150000 + 520 * k + 520) ∧ w.2.1.parts.length ≤ 64) ?_ ?_
   · repeat (refine gs trivial ?_)
     (apply r_call; (focus rfl))
     refine ddown_spec L b h d V t.kd _ ?_
     rcases cs with ⟨dn, c3, i3, rfl, q3, w3⟩ | ⟨dn, cr⟩
     · rw [dn]
       repeat (refine gs trivial ?_)
       refine j_n (a, now2, nx) ⟨⟨_, _, c3, i3, t, q3.mono (by omega) (by omega), w3⟩, onl⟩ ?_
       (refine leM ?_ ?_ ?_ <;> (repeat refine leS trivial ?_) <;> exact leE)
     · rw [dn]
       obtain ⟨sx, bx, ix, px, lx, ax⟩ := cr.crash wf ac.d.n ac.d.b
       obtain ⟨d4, c4, e4, q4, f4, w4, l4⟩ := ax.opens
       have wc := WF_sz (crash_wf wf ac.d.n ac.d.b) (fun y hy => (ax.wf.sz y hy).1)
       have osl := q4.good.st.len
       repeat (refine gr trivial ?_)
       (apply r_call; (focus rfl))
       refine dcrash_spec L C.cl b h d ac.d.n ac.d.b _ _ wf (by omega) (by omega) (by omega) V t.kd _ fun X4 h4 hD4 o4 => ?_
       have t4 := t.dstep hD4 o4
       clear hD4 o4
       generalize d.crash ac.d.n ac.d.b = dc at *
       repeat (refine gr trivial ?_)
       (apply r_call; (focus rfl))
       refine jopen_spec L C.cl b h4 dc _ _ wc (by omega) (by omega) X4 t4.kd _ fun X5 h5 hD5 o5 => ⟨fun hn => ?_, fun j hj a2 hJ oa na => ?_⟩
       · rw [e4] at hn; cases hn
       rw [e4] at hj hD5
       have hj : (⟨sx, (c4.length : Int), false⟩ : Jn) = j := Option.some.inj hj
       subst hj
       have t5 := JS.opened t4.ds hD5 oa hJ na
       rw [e4]
       clear hJ oa na hD5 o5
       repeat (refine gr trivial ?_)
       apply r_loadb (v := stE now2); (focus rfl); (focus rfl); (focus rfl)
       repeat (refine gr trivial ?_)
       (apply r_call; (focus rfl))
       refine jstate_spec L a2 b _ (show sx.parts.length ≤ 1048576 by omega) X5 t5.kj _ fun X6 f6 => ?_
       have t6 := t5.fr0 f6
       dsimp only
       repeat (refine gr trivial ?_)
       (apply r_call; (focus rfl))
       refine jsame_spec L sx now2 (by omega) (by omega) X6 _ fun X7 f7 => ?_
       have t7 := t6.fr0 f7
       cases b1 : sameS sx now2
       case true =>
         repeat (refine gr trivial ?_)
         (apply r_call; (focus rfl))
         refine jstate_spec L a2 b _ (show sx.parts.length ≤ 1048576 by omega) X7 t7.kj _ fun X9 f9 => ?_
         have t9 := t7.fr0 f9
         dsimp only
         repeat (refine gr trivial ?_)
         refine r_storeW (v := stE sx) (cs' := stC sx) rfl rfl rfl rfl rfl rfl rfl rfl ?_
         repeat (refine gs trivial ?_)
         refine j_n (a2, sx, nx) ⟨⟨_, _, c4, ix, t9, q4.mono (by omega) (by omega), w4⟩, osl⟩ ?_
         (refine leM ?_ ?_ ?_ <;> (repeat refine leS trivial ?_) <;> exact leE)
       case false =>
         have px : sx = nx := px.resolve_left fun e => by rw [e, sameS_refl] at b1; cases b1
         repeat (refine gr trivial ?_)
         apply r_loadb (v := stE nx); (focus rfl); (focus rfl); (focus rfl)
         repeat (refine gr trivial ?_)
         (apply r_call; (focus rfl))
         refine jstate_spec L a2 b _ (show sx.parts.length ≤ 1048576 by omega) X7 t7.kj _ fun X10 f10 => ?_
         have t10 := t7.fr0 f10
         dsimp only
         repeat (refine gr trivial ?_)
         (apply r_call; (focus rfl))
         refine jsame_spec L sx nx (by omega) (by omega) X10 _ fun X11 f11 => ?_
         have t11 := t10.fr0 f11
         rw [show sameS sx nx = true by rw [px, sameS_refl]]
         repeat (refine gr trivial ?_)
         (apply r_call; (focus rfl))
         refine jstate_spec L a2 b _ (show sx.parts.length ≤ 1048576 by omega) X11 t11.kj _ fun X9 f9 => ?_
         have t9 := t11.fr0 f9
         dsimp only
         repeat (refine gr trivial ?_)
         refine r_storeW (v := stE sx) (cs' := stC sx) rfl rfl rfl rfl rfl rfl rfl rfl ?_
         repeat (refine gs trivial ?_)
         refine j_n (a2, sx, nx) ⟨⟨_, _, c4, ix, t9, q4.mono (by omega) (by omega), w4⟩, osl⟩ ?_
         (refine leM ?_ ?_ ?_ <;> (repeat refine leS trivial ?_) <;> exact leE)
   rintro ⟨a3, now3, nx3⟩ W ⟨hQ3, l3⟩
   obtain ⟨h, d, c3, i3, t, q3, w3⟩ := hQ3.ex
   dsimp only at t q3 l3 ⊢
   repeat (refine gr trivial ?_)
   apply r_loadb (v := stE now3); (focus rfl); (focus rfl); (focus rfl)
   repeat (refine gr trivial ?_)
   (apply r_call; (focus rfl))
   refine jstate_spec L a3 b _ (show now3.parts.length ≤ 1048576 by omega) W t.kj _ fun X6 f6 => ?_
   have t6 := t.fr0 f6
   dsimp only
   repeat (refine gr trivial ?_)
   (apply r_call; (focus rfl))
   refine jsame_spec L now3 now3 (by omega) (by omega) X6 _ fun X7 f7 => ?_
   have t7 := t6.fr0 f7
   rw [sameS_refl]
   repeat (refine gr trivial ?_)
   refine k_n (k + 1, a3, now3, nx3) (by dsimp only; omega) ⟨hlt, ⟨_, _, c3, i3, t7, q3.mono (by omega) (by omega), w3⟩⟩ ?_
   (refine leM ?_ ?_ ?_ <;> (repeat refine leS trivial ?_) <;> exact leE)
 · repeat (refine gr trivial ?_)
   (apply r_call; (focus rfl))
   refine jawake_spec L C X _ fun X1 g1 => ?_
   repeat (refine gr trivial ?_)
   exact resK_some (hk X1 (t.fr.trans g1))
end Sm
