/-
  A layer of one's own: texts Y3,Y2,Bw.
-/
import Derived.Test.YtekgdfpcbcmlgaaDoorSmLG
import Derived.Test.YtekgdfpcbcmlgaaDoorSmLF
import Derived.Lib.Strings
set_option linter.unusedVariables false
namespace Sm
open Go
/-- A string out of its bytes. -/
abbrev S (l : List UInt8) : HV := .v (.string ⟨l.toArray⟩)
/-- A byte. -/
abbrev U (b : UInt8) : HV := .v (.int .u8 b.toNat)
theorem S_toList (l : List UInt8) : (⟨l.toArray⟩ : ByteArray).toList = l := by rw [Lib.toList_data]
section
variable {S' : SpecT} {sl : List (Nat × EV)} {bx : List (Nat × List HV)} {H : Heap} {K : Env → Heap → Prop} {os : List SOper} {d : Nat}
/-- A read of an object is told again. -/
theorem rc_load {e : Env} {H : Heap} {d n b off : Nat} {agg : Bool} {x : Opd} {cs : List HV} {v : HV} (ha : e.opd x = some (.h (.v (.pointer (some ⟨b, off, none⟩))))) (hk : H b = some (.obj cs)) (hv : loadv agg n off cs = some v) (hg : e.get d = some (.h v)) : rc1 ⟨some d, .load agg n x, none⟩ e H :=
  rc_ev (x := .h v) (by simp only [SOp.ev, ha, hk, hv]; rfl) hg
theorem r_slen {x : Opd} {l : List UInt8} {n : Nat} (hx : (M sl bx).hv x = some (S l)) (hn : l.length = n) (h : rsem S' os (M ((d, .h (I n)) :: sl) bx) H K) : rsem S' (⟨some d, .slen x, none⟩ :: os) (M sl bx) H K :=
  r_calm rfl (by subst hn; simp only [SOp.ev, hx, ByteArray.size]; rfl) h
theorem r_sidx {x i : Opd} {l : List UInt8} {n : Int} {j : Nat} {b : UInt8} (hx : (M sl bx).hv x = some (S l)) (hi : (M sl bx).hv i = some (I n)) (hj : n = j) (hb : l[j]? = some b)
    (h : rsem S' os (M ((d, .h (U b)) :: sl) bx) H K) : rsem S' (⟨some d, .sidx x i, none⟩ :: os) (M sl bx) H K := by
  subst hj
  obtain ⟨hlt, rfl⟩ := List.getElem?_eq_some_iff.mp hb
  refine r_calm rfl ?_ h
  have hc : 0 ≤ (j : Int) ∧ (j : Int).toNat < (⟨l.toArray⟩ : ByteArray).size := ⟨by omega, by simpa [ByteArray.size] using hlt⟩
  simp only [SOp.ev, hx, hi]
  rw [dif_pos hc]
  rfl
theorem r_ssl {x : Opd} {lo hi : Option Opd} {l : List UInt8} {a c : Int} (hx : (M sl bx).hv x = some (S l)) (ha : bnd (M sl bx) 0 lo = some a) (hc : bnd (M sl bx) l.length hi = some c) (hb : 0 ≤ a ∧ a ≤ c ∧ c ≤ l.length)
    (h : rsem S' os (M ((d, .h (S ((l.drop a.toNat).take (c.toNat - a.toNat)))) :: sl) bx) H K) : rsem S' (⟨some d, .ssl x lo hi, none⟩ :: os) (M sl bx) H K := by
  refine r_calm rfl ?_ h
  have hsz : (⟨l.toArray⟩ : ByteArray).size = l.length := by simp [ByteArray.size]
  simp only [SOp.ev, hx, hsz, ha, hc]
  rw [if_pos hb, Lib.extract_eq]
theorem r_seq {x y : Opd} {a b : List UInt8} (hx : (M sl bx).hv x = some (S a)) (hy : (M sl bx).hv y = some (S b)) (h : rsem S' os (M ((d, .h (B (a == b))) :: sl) bx) H K) : rsem S' (⟨some d, .str .eql x y, none⟩ :: os) (M sl bx) H K :=
  r_calm rfl (by simp only [SOp.ev, hx, hy, strOp, S_toList]; rfl) h
theorem r_sne {x y : Opd} {a b : List UInt8} (hx : (M sl bx).hv x = some (S a)) (hy : (M sl bx).hv y = some (S b)) (h : rsem S' os (M ((d, .h (B (!(a == b)))) :: sl) bx) H K) : rsem S' (⟨some d, .str .neq x y, none⟩ :: os) (M sl bx) H K :=
  r_calm rfl (by simp only [SOp.ev, hx, hy, strOp, S_toList]; rfl) h
theorem r_slt {x y : Opd} {a b : List UInt8} (hx : (M sl bx).hv x = some (S a)) (hy : (M sl bx).hv y = some (S b)) (h : rsem S' os (M ((d, .h (B (Op.bytesLess a b))) :: sl) bx) H K) : rsem S' (⟨some d, .str .lss x y, none⟩ :: os) (M sl bx) H K :=
  r_calm rfl (by simp only [SOp.ev, hx, hy, strOp, S_toList]; rfl) h
theorem r_sgt {x y : Opd} {a b : List UInt8} (hx : (M sl bx).hv x = some (S a)) (hy : (M sl bx).hv y = some (S b)) (h : rsem S' os (M ((d, .h (B (!(Op.bytesLess a b || a == b)))) :: sl) bx) H K) : rsem S' (⟨some d, .str .gtr x y, none⟩ :: os) (M sl bx) H K :=
  r_calm rfl (by simp only [SOp.ev, hx, hy, strOp, S_toList]; rfl) h
theorem r_nd1 {f : NdOp} {xs : List Opd} {hs : List HV} {v : HV} (hx : (M sl bx).hvs xs = some hs) (hk : ∀ R : HV → Prop, R v → ndK f hs R) (h : rsem S' os (M ((d, .h v) :: sl) bx) H K) : rsem S' (⟨some d, .nd f xs, none⟩ :: os) (M sl bx) H K := by
  rw [rsem_cons]
  simp only [SOp.step, hx]
  refine hk _ ?_
  rw [rK_app, M_put]; exact h
theorem r_ixb {x y : Opd} {l : List UInt8} {b : UInt8} (hx : (M sl bx).hvs [x, y] = some [S l, U b]) (h : rsem S' os (M ((d, .h (I (Lib.indexByte l b))) :: sl) bx) H K) : rsem S' (⟨some d, .nd .ixb [x, y], none⟩ :: os) (M sl bx) H K :=
  r_nd1 hx (fun R hR => by simp only [ndK]; simpa using hR) h
theorem r_cntb {x y : Opd} {l : List UInt8} {b : UInt8} (hx : (M sl bx).hvs [x, y] = some [S l, U b]) (h : rsem S' os (M ((d, .h (I (l.count b : Nat))) :: sl) bx) H K) : rsem S' (⟨some d, .nd .cntb [x, y], none⟩ :: os) (M sl bx) H K :=
  r_nd1 hx (fun R hR => by simp only [ndK]; simpa [Lib.countByte] using hR) h
theorem r_b2s {x : Opd} {tk : Tk} {l : List UInt8} (hx : (M sl bx).hv x = some (.sl tk 1 (l.map U))) (h : rsem S' os (M ((d, .h (S l)) :: sl) bx) H K) : rsem S' (⟨some d, .nd .b2s [x], none⟩ :: os) (M sl bx) H K :=
  r_nd1 (hs := [.sl tk 1 (l.map U)]) (by simp [Env.hvs, hx]) (fun R hR => by simp only [ndK]; exact ⟨⟨l.toArray⟩, by simp [bytesHV, byteHV], hR⟩) h
theorem r_b2s0 {x : Opd} (hx : (M sl bx).hv x = some (.v (.slice none 0 0))) (h : rsem S' os (M ((d, .h (S [])) :: sl) bx) H K) : rsem S' (⟨some d, .nd .b2s [x], none⟩ :: os) (M sl bx) H K :=
  r_nd1 (hs := [.v (.slice none 0 0)]) (by simp [Env.hvs, hx]) (fun R hR => by simp only [ndK]; exact hR) h
end
end Sm

set_option linter.unusedVariables false
namespace Sm
open Go
/-! The scripts by which a proof steps through code, each as the tactic of an argument. -/
theorem c_seqR {S : SpecT} {ops : List SOper} {b : SC} {e : Env} {H : Heap} {Q : SEx → Env → Heap → Prop} (h : csem S (.reg ops) e H (seqK S b Q)) : csem S (.seq (.reg ops) b) e H Q := c_seq h
theorem c_seqD {S : SpecT} {pm : List Nat} {ops : List DOper} {b : SC} {e : Env} {H : Heap} {Q : SEx → Env → Heap → Prop} (h : csem S (.dreg pm ops) e H (seqK S b Q)) : csem S (.seq (.dreg pm ops) b) e H Q := c_seq h
theorem c_seqB {S : SpecT} {i : Nat} {a b : SC} {e : Env} {H : Heap} {Q : SEx → Env → Heap → Prop} (h : csem S (.block i a) e H (seqK S b Q)) : csem S (.seq (.block i a) b) e H Q := c_seq h
theorem c_seqS {S : SpecT} {a0 a b : SC} {e : Env} {H : Heap} {Q : SEx → Env → Heap → Prop} (h : csem S (.seq a0 a) e H (seqK S b Q)) : csem S (.seq (.seq a0 a) b) e H Q := c_seq h
theorem get_enc {α : Type} {f : α → HV} {l : List α} {i : Nat} (h : i < l.length) : (l.map f)[i]? = some (f l[i]) := by simp [h]
structure Hold (p : Prop) : Prop where
  out : p
theorem gk {r p q : Prop} (c : r) (k : q) (h : r → Hold q → p := by (intro c k; (first | refine c_seq ?_ | refine c_reg ?_ | refine c_block ?_ | (apply c_dplain (Spec_SMono _); (focus rfl); (focus (simp only [List.map_cons, List.map_nil] <;> rfl))) | refine c_dreg rfl ?_ | refine r_nil ?_ | refine n_n ?_ | refine s_n ?_ | refine s_r ?_ | refine s_e ?_ | (apply r_loadb; (focus rfl); (focus rfl); (focus (simp only [c, nf, Nat.reduceAdd, Nat.reduceLeDiff] <;> rfl))) | (apply r_loadr; (focus rfl); (focus (simp only [c, nf, Nat.reduceAdd, Nat.reduceLeDiff] <;> rfl))) | (apply r_load; (focus rfl); (focus (first | assumption | (simp only [Heap.upd_same]; rfl) | (simp only [Heap.upd_same, Heap.upd_ne, ne_eq, not_false_eq_true, *] <;> rfl))); (focus (simp only [c, nf, Nat.reduceAdd, Nat.reduceLeDiff] <;> rfl))) | (apply r_len; (focus rfl); (focus (first | (simp only [List.length_map, List.length_append, List.length_cons, List.length_nil, Nat.zero_add, Nat.reduceAdd] <;> rfl) | rfl))) | (apply r_idx; (focus rfl); (focus rfl); (focus (first | rfl | omega)); (focus (first | exact get_enc (by omega) | assumption | rfl | (simp only [get_enc, *] <;> rfl))); (focus (simp only [c, nf, Nat.reduceAdd, Nat.reduceLeDiff] <;> rfl))) | (apply r_slen; (focus rfl); (focus (first | (simp only [List.length_map, List.length_append, List.length_cons, List.length_nil, Nat.zero_add, Nat.reduceAdd] <;> rfl) | rfl))) | (apply r_sidx; (focus rfl); (focus rfl); (focus (first | rfl | omega)); (focus (first | assumption | exact List.getElem?_eq_getElem (by omega)))) | (apply r_ssl; (focus rfl); (focus rfl); (focus rfl); (focus (omega))) | (apply r_seq; (focus rfl); (focus rfl)) | (apply r_sne; (focus rfl); (focus rfl)) | (apply r_slt; (focus rfl); (focus rfl)) | (apply r_sgt; (focus rfl); (focus rfl)) | (apply r_ixb; (focus rfl)) | (apply r_cntb; (focus rfl)) | (apply r_b2s; (focus rfl)) | (apply r_b2s0; (focus rfl)) | (apply r_add; (focus rfl); (focus rfl); (focus (omega))) | (apply r_sub; (focus rfl); (focus rfl); (focus (omega))) | (apply r_mul; (focus rfl); (focus rfl); (focus (omega))) | (apply r_conv; (focus rfl); (focus (omega))) | (apply r_rem; (focus rfl); (focus rfl); (focus (omega))) | (apply r_max; (focus rfl); (focus rfl)) | (apply r_min; (focus rfl); (focus rfl)) | (apply r_eq; (focus rfl); (focus rfl); (focus (simp only [eqv, eqs, eqL, Option.isNone_some, Option.isNone_none, if_true, ite_true, beq_self_eq_true, Bool.and_true, Bool.true_and, reduceCtorEq] <;> rfl))) | (apply r_ne; (focus rfl); (focus rfl); (focus (simp only [eqv, eqs, eqL, Option.isNone_some, Option.isNone_none, if_true, ite_true, beq_self_eq_true, Bool.and_true, Bool.true_and, reduceCtorEq] <;> rfl)); (focus (simp only [Bool.not_true, Bool.not_false] <;> rfl))) | (apply r_not; (focus rfl); (focus (simp only [Bool.not_true, Bool.not_false] <;> rfl))) | (apply r_cmp; (focus rfl); (focus rfl); (focus (simp only [intOp, Int.cast_ofNat_Int, ite_true, if_true, c, ge_le, gt_lt, beq_self_eq_true, bne_self_eq_false, Int.reduceBEq, Int.reduceBNe, Int.reduceLT, Int.reduceLE, Int.reduceGT, Int.reduceGE, decide_true, decide_false] <;> rfl))) | (apply r_isnil0; (focus rfl); (focus (simp only [Bool.not_true, Bool.not_false] <;> rfl))) | (apply r_calm; (focus rfl); (focus rfl)) | (apply r_guardu; (focus rfl)) | (apply r_guard; (focus rfl); (focus (simp only [Bool.not_true, Bool.not_false] <;> rfl)); with_reducible (first | refine G3_tt ?_ | refine G3_ff ?_ | refine G3_tf ?_ | refine G3_ft ?_)) | (apply c_cond; (focus rfl); with_reducible (first | refine BR_true ?_ | refine BR_false ?_)) | (apply r_alloc; (focus rfl)) | (apply r_box; (focus rfl); (focus (simp only [c, nf, Nat.reduceAdd, Nat.reduceLeDiff] <;> rfl)); (focus (simp only [c, nf, Nat.reduceAdd, Nat.reduceLeDiff] <;> rfl)); (focus (simp only [c, nf, Nat.reduceAdd, Nat.reduceLeDiff] <;> rfl)); (focus rfl)) | (apply r_bslice; (focus rfl); (focus (simp only [c, nf, Nat.reduceAdd, Nat.reduceLeDiff] <;> rfl)); (focus (simp only [c, nf, Nat.reduceAdd, Nat.reduceLeDiff] <;> rfl))) | (apply r_storeb; (focus rfl); (focus (simp only [c, nf, Nat.reduceAdd, Nat.reduceLeDiff] <;> rfl)); (focus (simp only [c, nf, Nat.reduceAdd, Nat.reduceLeDiff] <;> rfl)); (focus rfl); (focus rfl); (focus (simp only [c, nf, Nat.reduceAdd, Nat.reduceLeDiff] <;> rfl)); (focus (simp only [c, nf, Nat.reduceAdd, Nat.reduceLeDiff] <;> rfl))) | (apply d_cons; (focus rfl)) | refine dk_nil ?_ | (apply dk_cons; (focus rfl); (focus (first | exact rc_ev rfl rfl | exact rc_evg rfl rfl | (apply rc_load; (focus rfl); (focus (first | assumption | (simp only [Heap.upd_same]; rfl) | (simp only [Heap.upd_same, Heap.upd_ne, ne_eq, not_false_eq_true, *] <;> rfl))); (focus (simp only [c, nf, Nat.reduceAdd, Nat.reduceLeDiff] <;> rfl)); (focus rfl)) | (intro h; cases h)))) | refine d_nil ?_ | refine b_n ?_ | refine b_r ?_ | refine b_e ?_ | (apply b_x; (focus rfl)) | refine k_e ?_ | refine k_r ?_ | refine j_e ?_ | refine j_r ?_ | refine c_skip ?_ | refine c_exit ?_ | refine c_ret ?_ | (apply f_n; (focus rfl)) | (apply f_r; (focus rfl))); exact k.out)) : p := h c ⟨k⟩
theorem gb {r p q : Prop} (c : r) (k : q) (h : r → Hold q → p := by (intro c k; (first | refine c_seqR ?_ | refine c_seqD ?_ | refine c_seqS ?_ | refine c_reg ?_ | refine c_block ?_ | (apply c_dplain (Spec_SMono _); (focus rfl); (focus (simp only [List.map_cons, List.map_nil] <;> rfl))) | refine c_dreg rfl ?_ | refine r_nil ?_ | refine n_n ?_ | refine s_n ?_ | refine s_r ?_ | refine s_e ?_ | (apply r_loadb; (focus rfl); (focus rfl); (focus (simp only [c, nf, Nat.reduceAdd, Nat.reduceLeDiff] <;> rfl))) | (apply r_loadr; (focus rfl); (focus (simp only [c, nf, Nat.reduceAdd, Nat.reduceLeDiff] <;> rfl))) | (apply r_load; (focus rfl); (focus (first | assumption | (simp only [Heap.upd_same]; rfl) | (simp only [Heap.upd_same, Heap.upd_ne, ne_eq, not_false_eq_true, *] <;> rfl))); (focus (simp only [c, nf, Nat.reduceAdd, Nat.reduceLeDiff] <;> rfl))) | (apply r_len; (focus rfl); (focus (first | (simp only [List.length_map, List.length_append, List.length_cons, List.length_nil, Nat.zero_add, Nat.reduceAdd] <;> rfl) | rfl))) | (apply r_idx; (focus rfl); (focus rfl); (focus (first | rfl | omega)); (focus (first | exact get_enc (by omega) | assumption | rfl | (simp only [get_enc, *] <;> rfl))); (focus (simp only [c, nf, Nat.reduceAdd, Nat.reduceLeDiff] <;> rfl))) | (apply r_slen; (focus rfl); (focus (first | (simp only [List.length_map, List.length_append, List.length_cons, List.length_nil, Nat.zero_add, Nat.reduceAdd] <;> rfl) | rfl))) | (apply r_sidx; (focus rfl); (focus rfl); (focus (first | rfl | omega)); (focus (first | assumption | exact List.getElem?_eq_getElem (by omega)))) | (apply r_ssl; (focus rfl); (focus rfl); (focus rfl); (focus (omega))) | (apply r_seq; (focus rfl); (focus rfl)) | (apply r_sne; (focus rfl); (focus rfl)) | (apply r_slt; (focus rfl); (focus rfl)) | (apply r_sgt; (focus rfl); (focus rfl)) | (apply r_ixb; (focus rfl)) | (apply r_cntb; (focus rfl)) | (apply r_b2s; (focus rfl)) | (apply r_b2s0; (focus rfl)) | (apply r_add; (focus rfl); (focus rfl); (focus (omega))) | (apply r_sub; (focus rfl); (focus rfl); (focus (omega))) | (apply r_mul; (focus rfl); (focus rfl); (focus (omega))) | (apply r_conv; (focus rfl); (focus (omega))) | (apply r_rem; (focus rfl); (focus rfl); (focus (omega))) | (apply r_max; (focus rfl); (focus rfl)) | (apply r_min; (focus rfl); (focus rfl)) | (apply r_eq; (focus rfl); (focus rfl); (focus (simp only [eqv, eqs, eqL, Option.isNone_some, Option.isNone_none, if_true, ite_true, beq_self_eq_true, Bool.and_true, Bool.true_and, reduceCtorEq] <;> rfl))) | (apply r_ne; (focus rfl); (focus rfl); (focus (simp only [eqv, eqs, eqL, Option.isNone_some, Option.isNone_none, if_true, ite_true, beq_self_eq_true, Bool.and_true, Bool.true_and, reduceCtorEq] <;> rfl)); (focus (simp only [Bool.not_true, Bool.not_false] <;> rfl))) | (apply r_not; (focus rfl); (focus (simp only [Bool.not_true, Bool.not_false] <;> rfl))) | (apply r_cmp; (focus rfl); (focus rfl); (focus (simp only [intOp, Int.cast_ofNat_Int, ite_true, if_true, c, ge_le, gt_lt, beq_self_eq_true, bne_self_eq_false, Int.reduceBEq, Int.reduceBNe, Int.reduceLT, Int.reduceLE, Int.reduceGT, Int.reduceGE, decide_true, decide_false] <;> rfl))) | (apply r_isnil0; (focus rfl); (focus (simp only [Bool.not_true, Bool.not_false] <;> rfl))) | (apply r_calm; (focus rfl); (focus rfl)) | (apply r_guardu; (focus rfl)) | (apply r_guard; (focus rfl); (focus (simp only [Bool.not_true, Bool.not_false] <;> rfl)); with_reducible (first | refine G3_tt ?_ | refine G3_ff ?_ | refine G3_tf ?_ | refine G3_ft ?_)) | (apply c_cond; (focus rfl); with_reducible (first | refine BR_true ?_ | refine BR_false ?_)) | (apply r_alloc; (focus rfl)) | (apply r_box; (focus rfl); (focus (simp only [c, nf, Nat.reduceAdd, Nat.reduceLeDiff] <;> rfl)); (focus (simp only [c, nf, Nat.reduceAdd, Nat.reduceLeDiff] <;> rfl)); (focus (simp only [c, nf, Nat.reduceAdd, Nat.reduceLeDiff] <;> rfl)); (focus rfl)) | (apply r_bslice; (focus rfl); (focus (simp only [c, nf, Nat.reduceAdd, Nat.reduceLeDiff] <;> rfl)); (focus (simp only [c, nf, Nat.reduceAdd, Nat.reduceLeDiff] <;> rfl))) | (apply r_storeb; (focus rfl); (focus (simp only [c, nf, Nat.reduceAdd, Nat.reduceLeDiff] <;> rfl)); (focus (simp only [c, nf, Nat.reduceAdd, Nat.reduceLeDiff] <;> rfl)); (focus rfl); (focus rfl); (focus (simp only [c, nf, Nat.reduceAdd, Nat.reduceLeDiff] <;> rfl)); (focus (simp only [c, nf, Nat.reduceAdd, Nat.reduceLeDiff] <;> rfl))) | (apply d_cons; (focus rfl)) | refine dk_nil ?_ | (apply dk_cons; (focus rfl); (focus (first | exact rc_ev rfl rfl | exact rc_evg rfl rfl | (apply rc_load; (focus rfl); (focus (first | assumption | (simp only [Heap.upd_same]; rfl) | (simp only [Heap.upd_same, Heap.upd_ne, ne_eq, not_false_eq_true, *] <;> rfl))); (focus (simp only [c, nf, Nat.reduceAdd, Nat.reduceLeDiff] <;> rfl)); (focus rfl)) | (intro h; cases h)))) | refine d_nil ?_ | refine b_n ?_ | refine b_r ?_ | refine b_e ?_ | (apply b_x; (focus rfl)) | refine k_e ?_ | refine k_r ?_ | refine j_e ?_ | refine j_r ?_ | refine c_skip ?_ | refine c_exit ?_ | refine c_ret ?_ | (apply f_n; (focus rfl)) | (apply f_r; (focus rfl))); exact k.out)) : p := h c ⟨k⟩
theorem gj {r p q : Prop} (c : r) (k : q) (h : r → Hold q → p := by (intro c k; (first | refine c_seqR ?_ | refine c_seqD ?_ | refine c_seqB ?_ | refine c_reg ?_ | refine c_block ?_ | (apply c_dplain (Spec_SMono _); (focus rfl); (focus (simp only [List.map_cons, List.map_nil] <;> rfl))) | refine c_dreg rfl ?_ | refine r_nil ?_ | refine n_n ?_ | refine s_n ?_ | refine s_r ?_ | refine s_e ?_ | (apply r_loadb; (focus rfl); (focus rfl); (focus (simp only [c, nf, Nat.reduceAdd, Nat.reduceLeDiff] <;> rfl))) | (apply r_loadr; (focus rfl); (focus (simp only [c, nf, Nat.reduceAdd, Nat.reduceLeDiff] <;> rfl))) | (apply r_load; (focus rfl); (focus (first | assumption | (simp only [Heap.upd_same]; rfl) | (simp only [Heap.upd_same, Heap.upd_ne, ne_eq, not_false_eq_true, *] <;> rfl))); (focus (simp only [c, nf, Nat.reduceAdd, Nat.reduceLeDiff] <;> rfl))) | (apply r_len; (focus rfl); (focus (first | (simp only [List.length_map, List.length_append, List.length_cons, List.length_nil, Nat.zero_add, Nat.reduceAdd] <;> rfl) | rfl))) | (apply r_idx; (focus rfl); (focus rfl); (focus (first | rfl | omega)); (focus (first | exact get_enc (by omega) | assumption | rfl | (simp only [get_enc, *] <;> rfl))); (focus (simp only [c, nf, Nat.reduceAdd, Nat.reduceLeDiff] <;> rfl))) | (apply r_slen; (focus rfl); (focus (first | (simp only [List.length_map, List.length_append, List.length_cons, List.length_nil, Nat.zero_add, Nat.reduceAdd] <;> rfl) | rfl))) | (apply r_sidx; (focus rfl); (focus rfl); (focus (first | rfl | omega)); (focus (first | assumption | exact List.getElem?_eq_getElem (by omega)))) | (apply r_ssl; (focus rfl); (focus rfl); (focus rfl); (focus (omega))) | (apply r_seq; (focus rfl); (focus rfl)) | (apply r_sne; (focus rfl); (focus rfl)) | (apply r_slt; (focus rfl); (focus rfl)) | (apply r_sgt; (focus rfl); (focus rfl)) | (apply r_ixb; (focus rfl)) | (apply r_cntb; (focus rfl)) | (apply r_b2s; (focus rfl)) | (apply r_b2s0; (focus rfl)) | (apply r_add; (focus rfl); (focus rfl); (focus (omega))) | (apply r_sub; (focus rfl); (focus rfl); (focus (omega))) | (apply r_mul; (focus rfl); (focus rfl); (focus (omega))) | (apply r_conv; (focus rfl); (focus (omega))) | (apply r_rem; (focus rfl); (focus rfl); (focus (omega))) | (apply r_max; (focus rfl); (focus rfl)) | (apply r_min; (focus rfl); (focus rfl)) | (apply r_eq; (focus rfl); (focus rfl); (focus (simp only [eqv, eqs, eqL, Option.isNone_some, Option.isNone_none, if_true, ite_true, beq_self_eq_true, Bool.and_true, Bool.true_and, reduceCtorEq] <;> rfl))) | (apply r_ne; (focus rfl); (focus rfl); (focus (simp only [eqv, eqs, eqL, Option.isNone_some, Option.isNone_none, if_true, ite_true, beq_self_eq_true, Bool.and_true, Bool.true_and, reduceCtorEq] <;> rfl)); (focus (simp only [Bool.not_true, Bool.not_false] <;> rfl))) | (apply r_not; (focus rfl); (focus (simp only [Bool.not_true, Bool.not_false] <;> rfl))) | (apply r_cmp; (focus rfl); (focus rfl); (focus (simp only [intOp, Int.cast_ofNat_Int, ite_true, if_true, c, ge_le, gt_lt, beq_self_eq_true, bne_self_eq_false, Int.reduceBEq, Int.reduceBNe, Int.reduceLT, Int.reduceLE, Int.reduceGT, Int.reduceGE, decide_true, decide_false] <;> rfl))) | (apply r_isnil0; (focus rfl); (focus (simp only [Bool.not_true, Bool.not_false] <;> rfl))) | (apply r_calm; (focus rfl); (focus rfl)) | (apply r_guardu; (focus rfl)) | (apply r_guard; (focus rfl); (focus (simp only [Bool.not_true, Bool.not_false] <;> rfl)); with_reducible (first | refine G3_tt ?_ | refine G3_ff ?_ | refine G3_tf ?_ | refine G3_ft ?_)) | (apply c_cond; (focus rfl); with_reducible (first | refine BR_true ?_ | refine BR_false ?_)) | (apply r_alloc; (focus rfl)) | (apply r_box; (focus rfl); (focus (simp only [c, nf, Nat.reduceAdd, Nat.reduceLeDiff] <;> rfl)); (focus (simp only [c, nf, Nat.reduceAdd, Nat.reduceLeDiff] <;> rfl)); (focus (simp only [c, nf, Nat.reduceAdd, Nat.reduceLeDiff] <;> rfl)); (focus rfl)) | (apply r_bslice; (focus rfl); (focus (simp only [c, nf, Nat.reduceAdd, Nat.reduceLeDiff] <;> rfl)); (focus (simp only [c, nf, Nat.reduceAdd, Nat.reduceLeDiff] <;> rfl))) | (apply r_storeb; (focus rfl); (focus (simp only [c, nf, Nat.reduceAdd, Nat.reduceLeDiff] <;> rfl)); (focus (simp only [c, nf, Nat.reduceAdd, Nat.reduceLeDiff] <;> rfl)); (focus rfl); (focus rfl); (focus (simp only [c, nf, Nat.reduceAdd, Nat.reduceLeDiff] <;> rfl)); (focus (simp only [c, nf, Nat.reduceAdd, Nat.reduceLeDiff] <;> rfl))) | (apply d_cons; (focus rfl)) | refine dk_nil ?_ | (apply dk_cons; (focus rfl); (focus (first | exact rc_ev rfl rfl | exact rc_evg rfl rfl | (apply rc_load; (focus rfl); (focus (first | assumption | (simp only [Heap.upd_same]; rfl) | (simp only [Heap.upd_same, Heap.upd_ne, ne_eq, not_false_eq_true, *] <;> rfl))); (focus (simp only [c, nf, Nat.reduceAdd, Nat.reduceLeDiff] <;> rfl)); (focus rfl)) | (intro h; cases h)))) | refine d_nil ?_ | refine b_n ?_ | refine b_r ?_ | refine b_e ?_ | (apply b_x; (focus rfl)) | refine k_e ?_ | refine k_r ?_ | refine j_e ?_ | refine j_r ?_ | refine c_skip ?_ | refine c_exit ?_ | refine c_ret ?_ | (apply f_n; (focus rfl)) | (apply f_r; (focus rfl))); exact k.out)) : p := h c ⟨k⟩
theorem leS {r p q : Prop} (c : r) (k : q) (h : r → Hold q → p := by (intro c k; (first | (apply leL_eq; (focus rfl); (focus (first | rfl | (simp only [c, List.map_append, List.map_cons, List.map_nil] <;> rfl)))) | (apply leL_w; (focus rfl); (focus (first | exact Weak.refl _ | exact Weak.nil _ | exact Weak.nil' _ | exact Weak.drop _ _ _))) | (apply leB_eq; (focus rfl); (focus (first | rfl | (simp only [c, List.map_append, List.map_cons, List.map_nil] <;> rfl))))); exact k.out)) : p := h c ⟨k⟩
theorem leE {p : Prop} (h : p := by (first | exact leL_nil | exact leB_nil | (simp only [lpOk, lk, Option.isSome_some, ite_true, ite_false, if_true, if_false, reduceCtorEq, Nat.reduceEqDiff, and_self]))) : p := h
theorem ct {r p q1 q2 : Prop} (c : r) (k1 : q1) (k2 : q2) (h : r → Hold q1 → Hold q2 → p := by (intro c k1 k2; apply c_cond; (focus rfl); first | with_reducible exact BR_not (BR_both k1.out k2.out) | exact BR_both k1.out k2.out)) : p := h c ⟨k1⟩ ⟨k2⟩
theorem gt {r p q1 q2 : Prop} (c : r) (k1 : q1) (k2 : q2) (h : r → Hold q1 → Hold q2 → p := by (intro c k1 k2; apply r_guard; (focus rfl); (focus (simp only [Bool.not_true, Bool.not_false] <;> rfl)); first | with_reducible exact G3_not rfl (G3_f k1.out k2.out) | with_reducible exact G3_not rfl (G3_t k1.out k2.out) | exact G3_t k1.out k2.out | exact G3_f k1.out k2.out)) : p := h c ⟨k1⟩ ⟨k2⟩
theorem bxk {r p q : Prop} (c : r) (k : q) (h : r → Hold q → p := by (intro c k; apply r_boxX; (focus rfl); (focus (simp only [c, nf, Nat.reduceAdd, Nat.reduceLeDiff] <;> rfl)); (focus (simp only [c, nf, Nat.reduceAdd, Nat.reduceLeDiff] <;> rfl)); (focus (simp only [c, nf, Nat.reduceAdd, Nat.reduceLeDiff] <;> rfl)); exact k.out)) : p := h c ⟨k⟩
theorem sxk {r p q : Prop} (c : r) (k : q) (h : r → Hold q → p := by (intro c k; apply r_storeX; (focus rfl); (focus (simp only [c, nf, Nat.reduceAdd, Nat.reduceLeDiff] <;> rfl)); (focus (simp only [c, nf, Nat.reduceAdd, Nat.reduceLeDiff] <;> rfl)); (focus rfl); (focus (first | assumption | (simp only [Heap.upd_same]; rfl) | (simp only [Heap.upd_same, Heap.upd_ne, ne_eq, not_false_eq_true, *] <;> rfl))); (focus (simp only [c, nf, Nat.reduceAdd, Nat.reduceLeDiff] <;> rfl)); (focus (simp only [c, nf, Nat.reduceAdd, Nat.reduceLeDiff] <;> rfl)); exact k.out)) : p := h c ⟨k⟩
end Sm

set_option linter.unusedVariables false
set_option linter.unusedSimpArgs false
set_option linter.unnecessarySimpa false
namespace Sm
open Go

/-- What one reads where all objects stand still for a while. -/
def VW (H : Heap) (x y : HV) : Prop := ∀ ν K w u, (∀ b cs, H b = some (.obj cs) → Froz ν K w b cs) → rep ν K w x u → rep ν K w y u
def VWL (H : Heap) : List HV → List HV → Prop
  | [], [] => True
  | x :: xs, y :: ys => VW H x y ∧ VWL H xs ys
  | _, _ => False
theorem VWL.rep {H : Heap} {ν K w} (hf : ∀ b cs, H b = some (.obj cs) → Froz ν K w b cs) : ∀ {xs ys : List HV} {us : List Value}, VWL H xs ys → repL ν K w xs us → repL ν K w ys us
  | [], [], us, _, h => h
  | x :: xs, y :: ys, us, hw, h => by
    simp only [repL] at h ⊢
    obtain ⟨u, us', h1, h2, h3⟩ := h
    exact ⟨u, us', h1, hw.1 _ _ _ _ hf h2, VWL.rep hf hw.2 h3⟩
  | [], _ :: _, _, hw, _ => hw.elim
  | _ :: _, [], _, hw, _ => hw.elim
theorem VW.refl (H : Heap) (x : HV) : VW H x x := fun _ _ _ _ _ h => h
theorem VWL.refl (H : Heap) : ∀ xs : List HV, VWL H xs xs
  | [] => trivial
  | x :: xs => ⟨VW.refl H x, VWL.refl H xs⟩
theorem VW.trans {H : Heap} {x y z : HV} (h : VW H x y) (k : VW H y z) : VW H x z := fun ν K w u f hr => k ν K w u f (h ν K w u f hr)
theorem VW.fw {H : Heap} {b : Nat} {cs : List HV} {x y : HV} (hb : H b = some (.obj cs)) (h : FW b cs x y) : VW H x y := fun ν K w u f hr => h ν K w u (f b cs hb) hr
theorem VW.of {H : Heap} {x y : HV} (h : Weak x y) : VW H x y := fun ν K w u _ hr => h ν K w u hr
theorem VW.ag {H : Heap} {xs ys : List HV} (h : VWL H xs ys) (h1 : ys.all HV.one = true) : VW H (.ag xs) (.ag ys) := fun ν K w u f hr => by
  simp only [Sm.rep] at hr ⊢
  obtain ⟨us, e, _, h3⟩ := hr
  exact ⟨us, e, h1, h.rep f h3⟩
theorem VWL.length {H : Heap} : ∀ {xs ys : List HV}, VWL H xs ys → xs.length = ys.length
  | [], [], _ => rfl
  | x :: xs, y :: ys, h => by simp [VWL.length h.2]
  | [], _ :: _, h => h.elim
  | _ :: _, [], h => h.elim
theorem VW.sl {H : Heap} {tk : Tk} {sz : Nat} {xs ys : List HV} (h : VWL H xs ys) (h1 : ys.all HV.el = true) (h2 : ∀ e ∈ ys, e.ncells = sz) : VW H (.sl tk sz xs) (.sl tk sz ys) := fun ν K w u f hr => by
  simp only [Sm.rep] at hr ⊢
  obtain ⟨A, cap, vals, e, g1, g2, g3, g4, g5, g6, g7⟩ := hr
  have hl := h.length
  refine ⟨A, cap, vals, by rw [e, hl], by omega, g2, by rw [← hl]; exact g3, h1, h2, h.rep f g6, ?_⟩
  rcases g7 with g7 | ⟨b, off, k1, k2, k3⟩
  · left; subst g7; exact List.length_eq_zero_iff.mp hl.symm
  · right; exact ⟨b, off, k1, by rw [← hl]; exact k2, k3⟩
theorem VWL.map {α : Type} {H : Heap} {f g : α → HV} : ∀ {l : List α}, (∀ a ∈ l, VW H (f a) (g a)) → VWL H (l.map f) (l.map g)
  | [], _ => trivial
  | a :: l, h => ⟨h a (by simp), VWL.map fun b hb => h b (by simp [hb])⟩

/-- The blocks' sizes, or more. -/
def Kv (w : World) (K : Nat → Nat) (b : Nat) : Nat := max (K b) (match w.heap[b]? with
  | some (.cells c _ _) => c.size
  | _ => 0)
theorem Kv_grow (w : World) (K : Nat → Nat) : Grow w K w (Kv w K) := ⟨fun b => Nat.le_max_left _ _, fun _ _ _ => rfl⟩
def noR : Heap := fun _ => none
/-- Objects are lent: a function that answers, and keeps nothing, may read them as what stands still. -/
theorem Spec.borrow {P : Program} {ν : Nat → Option Nat} {g : Nat} {args args' : List HV} {H : Heap} {x : Value} {Q : HV → Heap → Prop} (hv : VWL H args args')
    (hS : Spec P ν g args' noR fun r _ => r = .v x) (hQ : Q (.v x) H) : Spec P ν g args H Q := by
  intro n hn w K us hs hr
  have hg := Kv_grow w K
  have hfz : ∀ b cs, H b = some (.obj cs) → Froz ν (Kv w K) w b cs := fun b cs hb => by
    obtain ⟨vs, T, h1, h2, h3, h4⟩ := hs.res b _ hb
    refine ⟨vs.toList, cellsAt_block h1, h3.grow hg, ?_, h4⟩
    simp only [Kv, h1, Array.length_toList]
    exact Nat.le_max_right _ _
  have h0 : hsat ν w (Kv w K) noR := ⟨fun b r h => (by cases h), fun b hb => (by simp only [Kv, hs.fresh b hb, Array.getElem?_eq_none hb]; rfl)⟩
  refine (hS n hn w (Kv w K) us h0 (hv.rep hfz (repL.grow hg _ hr))).mono fun e w' ⟨u, h, H1, K1, e1, e2, e3, e4, e5⟩ => ?_
  subst e5
  simp only [rep] at e2
  subst e2
  have sm : ∀ b, b < w.heap.size → w'.heap[b]? = w.heap[b]? := fun b hb => (e4.same b hb rfl).1
  let K2 : Nat → Nat := fun b => if b < w.heap.size then K b else 0
  have k2 : ∀ b, b < w.heap.size → K2 b = K b := fun b hb => by simp [K2, hb]
  have hg2 : Grow w K w' K2 := ⟨fun b => by
    rcases Nat.lt_or_ge b w.heap.size with hb | hb
    · rw [k2 b hb]; exact Nat.le_refl _
    · rw [hs.fresh b hb]; exact Nat.zero_le _, fun b j hj => by
    rcases Nat.lt_or_ge b w.heap.size with hb | hb
    · simp only [World.cell?, sm b hb]
    · rw [hs.fresh b hb] at hj; omega⟩
  refine ⟨u, .v u, H, K2, e1, by simp only [rep], ⟨fun b r hb => ?_, fun b hb => ?_⟩, ⟨e4.os, e4.tape, e4.output, e4.size, hg2, fun b hb hH => ⟨sm b hb, k2 b hb, hH⟩⟩, hQ⟩
  · have hlt := hs.lt hb
    exact (hs.res b r hb).move hg2 (sm b hlt) (k2 b hlt)
  · have := e4.size
    simp [K2]; omega
end Sm
