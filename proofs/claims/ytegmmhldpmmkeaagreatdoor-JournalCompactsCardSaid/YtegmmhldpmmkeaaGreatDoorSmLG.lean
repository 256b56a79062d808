/-
  Y
-/
import Derived.Test.YtegmmhldpmmkeaaGreatDoorSmLF
set_option linter.unusedVariables false
namespace Sm
open Go
def lq {α : Type} : List (Nat × α) → Nat → Option α
 | [], _ => none
 | (k, h) :: r, t => match Nat.beq k t with
   | true => some h
   | false => lq r t
theorem lq_lk {α : Type} : ∀ (l : List (Nat × α)), lq l = lk l
 | [] => rfl
 | (k, h) :: r => by
   funext t
   simp only [lq, lk, lq_lk r]
   by_cases hk : k = t
   · subst hk; rw [Nat.beq_refl, if_pos rfl]
   · rw [if_neg hk]
     have : Nat.beq k t = false := by
       cases hb : Nat.beq k t with
       | false => rfl
       | true => exact absurd (Nat.eq_of_beq_eq_true hb) hk
     rw [this]
theorem lq_cons {α : Type} (k : Nat) (h : α) (r : List (Nat × α)) : lq ((k, h) :: r) = upd (lq r) k h := by
 funext t
 simp only [lq_lk, lk, upd]
def M (sl : List (Nat × EV)) (bx : List (Nat × List HV)) : Env := ⟨lq sl, lq bx⟩
theorem M_of (sl bx) : M sl bx = Env.of sl bx := by simp only [M, Env.of, lq_lk]
theorem M_put (d : Nat) (x : EV) (sl bx) : (M sl bx).put (some d) x = M ((d, x) :: sl) bx := by simp only [M, Env.put, lq_cons]
theorem M_put0 (x : EV) (sl bx) : (M sl bx).put none x = M sl bx := rfl
theorem M_setb (k : Nat) (cs : List HV) (sl bx) : (M sl bx).setb k cs = M sl ((k, cs) :: bx) := by simp only [M, Env.setb, lq_cons]
def argL : Nat → List HV → List (Nat × EV)
 | _, [] => []
 | i, h :: r => (i, .h h) :: argL (i + 1) r
theorem argL_get : ∀ (l : List HV) (i t : Nat), lk (argL i l) (i + t) = (l[t]?).map .h
 | [], i, t => by simp [argL, lk]
 | h :: r, i, 0 => by simp [argL, lk]
 | h :: r, i, t + 1 => by
   have := argL_get r (i + 1) t
   simp only [argL, lk, List.getElem?_cons_succ]
   rw [if_neg (by omega), ← this]
   congr 1; omega
theorem initE_M (args : List HV) : initE args = M (argL 0 args) [] := by
 have : lq (argL 0 args) = fun t => (args[t]?).map .h := by
   funext t
   rw [lq_lk]
   have := argL_get args 0 t
   rwa [Nat.zero_add] at this
 simp only [initE, M, this]
 rfl
theorem ge_le (a b : Int) : (a ≥ b) = (b ≤ a) := rfl
theorem gt_lt (a b : Int) : (a > b) = (b < a) := rfl
theorem nf : (∀ agg n off cs, loadv agg n off cs = if off + n ≤ cs.length then mkv agg ((cs.drop off).take n) else none)
   ∧ (∀ cs, mkv true cs = some (.ag cs)) ∧ (∀ h, mkv false [h] = some h)
   ∧ (∀ (cs : List HV) off, setL cs off [] = cs) ∧ (∀ (cs : List HV) off v vs, setL cs off (v :: vs) = setL (cs.set off v) (off + 1) vs)
   ∧ (∀ cs, (HV.ag cs).cells = cs) ∧ (∀ x, (HV.v x).cells = [.v x]) ∧ (∀ a b c, (HV.sl a b c).cells = [.sl a b c]) ∧ (∀ cs, (HV.rp cs).cells = [.rp cs]) ∧ (∀ g cs, (HV.fn g cs).cells = [.fn g cs])
   ∧ (∀ cs, (HV.ag cs).el = cs.all HV.one) ∧ (∀ x, (HV.v x).el = x.oneCell') ∧ (∀ a b c, (HV.sl a b c).el = true) ∧ (∀ cs, (HV.rp cs).el = true) ∧ (∀ g cs, (HV.fn g cs).el = true)
   ∧ (∀ x, (HV.v x).one = x.oneCell') ∧ (∀ a b c, (HV.sl a b c).one = true) ∧ (∀ cs, (HV.rp cs).one = true) ∧ (∀ g cs, (HV.fn g cs).one = true)
   ∧ (∀ cs, (HV.ag cs).ncells = cs.length) ∧ (∀ x, (HV.v x).ncells = 1) ∧ (∀ a b c, (HV.sl a b c).ncells = 1) ∧ (∀ cs, (HV.rp cs).ncells = 1) ∧ (∀ g cs, (HV.fn g cs).ncells = 1)
   ∧ (∀ k n, (Value.int k n).oneCell' = true) ∧ (∀ b, (Value.bool b).oneCell' = true) ∧ (∀ b, (Value.string b).oneCell' = true) ∧ (∀ a, (Value.pointer a).oneCell' = true) ∧ (∀ a n c, (Value.slice a n c).oneCell' = true)
   ∧ (∀ (a : HV) as, (a :: as).length = as.length + 1) ∧ (([] : List HV).length = 0)
   ∧ (∀ n (a : HV) as, (a :: as).drop (n + 1) = as.drop n) ∧ (∀ as : List HV, as.drop 0 = as) ∧ (∀ n (a : HV) as, (a :: as).take (n + 1) = a :: as.take n) ∧ (∀ as : List HV, as.take 0 = [])
   ∧ (∀ (a b : HV) as, (a :: as).set 0 b = b :: as) ∧ (∀ n (a b : HV) as, (a :: as).set (n + 1) b = a :: as.set n b)
   ∧ (∀ (f : HV → Bool) a as, (a :: as).all f = (f a && as.all f)) ∧ (∀ f : HV → Bool, ([] : List HV).all f = true)
   ∧ (∀ a b : Option HV, (if True then a else b) = a) ∧ (∀ n, 0 + n = n) ∧ (∀ n : Nat, (n ≤ n) = True) ∧ (∀ b, (b && true) = b) ∧ (∀ b, (true && b) = b) := by
 refine ⟨fun _ _ _ _ => rfl, fun _ => rfl, fun _ => rfl, fun _ _ => by cases ‹List HV› <;> rfl, fun _ _ _ _ => rfl, fun _ => rfl, fun _ => rfl, fun _ _ _ => rfl, fun _ => rfl, fun _ _ => rfl, fun _ => rfl, fun _ => rfl, fun _ _ _ => rfl, fun _ => rfl, fun _ _ => rfl, fun _ => rfl, fun _ _ _ => rfl, fun _ => rfl, fun _ _ => rfl, fun _ => rfl, fun _ => rfl, fun _ _ _ => rfl, fun _ => rfl, fun _ _ => rfl, fun _ _ => rfl, fun _ => rfl, fun _ => rfl, fun _ => rfl, fun _ _ _ => rfl, fun _ _ => rfl, rfl, fun _ _ _ => rfl, fun _ => rfl, fun _ _ _ => rfl, fun _ => by simp, fun _ _ _ => rfl, fun _ _ _ _ => rfl, fun _ _ _ => rfl, fun _ => rfl, fun _ _ => if_pos trivial, fun _ => Nat.zero_add _, fun _ => eq_true (Nat.le_refl _), fun b => by cases b <;> rfl, fun b => by cases b <;> rfl⟩
def BR (t : Bool) (P Q : Prop) : Prop := (t = true → P) ∧ (t = false → Q)
theorem BR_true {P Q : Prop} (h : P) : BR true P Q := ⟨fun _ => h, fun h => by cases h⟩
theorem BR_false {P Q : Prop} (h : Q) : BR false P Q := ⟨(fun h => by cases h), fun _ => h⟩
theorem BR_both {t : Bool} {P Q : Prop} (h : t = true → P) (k : t = false → Q) : BR t P Q := ⟨h, k⟩
theorem BR_not {t : Bool} {P Q : Prop} (h : BR t Q P) : BR (!t) P Q := by cases t with
 | true => exact ⟨fun e => (by cases e), fun _ => h.1 rfl⟩
 | false => exact ⟨fun _ => h.2 rfl, fun e => (by cases e)⟩
section
variable {S : SpecT} {sl : List (Nat × EV)} {bx : List (Nat × List HV)} {e : Env} {H : Heap} {Q : SEx → Env → Heap → Prop} {K : Env → Heap → Prop} {os : List SOper} {d : Nat} {o : SOp}
theorem go_spec {code : Nat → SF} (L : Linked code) {g np N : Nat} {res : List SRes} {body : SC} {args : List HV} {R : HV → Heap → Prop} (hc : code g = ⟨np, N, res, body⟩) (hn : args.length = np)
   (h : csem (Spec L.P L.ν) body (M (argL 0 args) []) H (finK res R)) (hd : body.isD = false := by rfl) : Spec L.P L.ν g args H R := by
 refine spec_of L ?_ (by rw [hc]; exact hd)
 rw [hc, sem_eq]
 exact ⟨hn, by rw [initE_M]; exact h⟩
theorem c_skip (h : Q .normal e H) : csem S .skip e H Q := h
theorem c_reg {ops : List SOper} (h : rsem S ops e H (normK Q)) : csem S (.reg ops) e H Q := h
theorem c_dreg {perm : List Nat} {L : List DOper} {is : List Nat} (hi : List.range L.length = is) (h : dsem S L is e H (normK Q)) : csem S (.dreg perm L) e H Q := by
 rw [csem_dreg, hi]; exact h
theorem c_seq {a b : SC} (h : csem S a e H (seqK S b Q)) : csem S (.seq a b) e H Q := h
theorem c_block {id : Nat} {b : SC} (h : csem S b e H (blockK id Q)) : csem S (.block id b) e H Q := h
theorem c_exit {id : Nat} (h : Q (.exit id) e H) : csem S (.exit id) e H Q := h
theorem c_ret (h : Q .ret e H) : csem S .ret e H Q := h
theorem c_cond {c : Opd} {a b : SC} {t : Bool} (hc : e.hv c = some (.v (.bool t))) (h : BR t (csem S a e H Q) (csem S b e H Q)) : csem S (.cond c a b) e H Q := by
 rw [csem_cond, hc]; exact h
theorem n_n (h : Q .normal e H) : normK Q e H := h
theorem s_n {b : SC} (h : csem S b e H Q) : seqK S b Q .normal e H := ⟨e, H, VS.refl e H, h⟩
theorem s_v {b : SC} {e1 : Env} {H1 : Heap} (hv : VS e H e1 H1) (h : csem S b e1 H1 Q) : seqK S b Q .normal e H := ⟨e1, H1, hv, h⟩
theorem s_e {b : SC} {i : Nat} (h : Q (.exit i) e H) : seqK S b Q (.exit i) e H := h
theorem s_r {b : SC} (h : Q .ret e H) : seqK S b Q .ret e H := h
theorem b_n {id : Nat} (h : Q .normal e H) : blockK id Q .normal e H := h
theorem b_r {id : Nat} (h : Q .ret e H) : blockK id Q .ret e H := h
theorem b_e {id : Nat} (h : Q .normal e H) : blockK id Q (.exit id) e H := by rw [blockK_exit, if_pos rfl]; exact h
theorem b_x {id i : Nat} (hi : Nat.beq i id = false) (h : Q (.exit i) e H) : blockK id Q (.exit i) e H := by
 rw [blockK_exit, if_neg (by rintro rfl; rw [Nat.beq_refl] at hi; cases hi)]; exact h
theorem f_n {res : List SRes} {R : HV → Heap → Prop} {hs : List HV} (hr : resList e H res = some hs) (h : resK (some hs) H R) : finK res R .normal e H := by
 exact finK_normal (by rw [hr]; exact h)
theorem f_r {res : List SRes} {R : HV → Heap → Prop} {hs : List HV} (hr : resList e H res = some hs) (h : resK (some hs) H R) : finK res R .ret e H := by
 exact finK_ret (by rw [hr]; exact h)
theorem r_nil (h : K e H) : rsem S [] e H K := h
theorem step_calm {x : EV} {KK : EV → Env → Heap → Prop} (hc : o.calm = true) (hv : o.ev e H = some x) (h : KK x e H) : o.step S e H KK := by
 cases o <;> first | (simp only [SOp.step, hv]; exact h) | (simp only [SOp.calm, Bool.false_eq_true] at hc)
theorem r_calm {x : EV} (hc : o.calm = true) (hv : o.ev (M sl bx) H = some x) (h : rsem S os (M ((d, x) :: sl) bx) H K) : rsem S (⟨some d, o, none⟩ :: os) (M sl bx) H K := by
 rw [rsem_cons]
 refine step_calm hc hv ?_
 rw [rK_app, M_put]; exact h
def G3 (b want : Bool) (P0 P1 Q0 Q1 : Prop) : Prop := (b = want → P0 ∨ P1) ∧ (b = !want → Q0 ∨ Q1)
theorem G3_tt {P0 P1 Q0 Q1 : Prop} (h : P0) : G3 true true P0 P1 Q0 Q1 := ⟨fun _ => .inl h, fun h => by cases h⟩
theorem G3_ff {P0 P1 Q0 Q1 : Prop} (h : P0) : G3 false false P0 P1 Q0 Q1 := ⟨fun _ => .inl h, fun h => by cases h⟩
theorem G3_tf {P0 P1 Q0 Q1 : Prop} (h : Q0) : G3 true false P0 P1 Q0 Q1 := ⟨(fun h => by cases h), fun _ => .inl h⟩
theorem G3_ft {P0 P1 Q0 Q1 : Prop} (h : Q0) : G3 false true P0 P1 Q0 Q1 := ⟨(fun h => by cases h), fun _ => .inl h⟩
theorem G3_not {b w w' : Bool} {P0 P1 Q0 Q1 : Prop} (hw : (!w) = w') (h : G3 b w' P0 P1 Q0 Q1) : G3 (!b) w P0 P1 Q0 Q1 := by
 subst hw
 refine ⟨fun e => h.1 (by subst e; simp), fun e => h.2 (by cases b <;> cases w <;> simp_all)⟩
theorem G3_t {b : Bool} {P0 P1 Q0 Q1 : Prop} (h : b = true → P1) (k : b = false → Q1) : G3 b true P0 P1 Q0 Q1 := ⟨fun e => .inr (h e), fun e => .inr (k e)⟩
theorem G3_f {b : Bool} {P0 P1 Q0 Q1 : Prop} (h : b = false → P1) (k : b = true → Q1) : G3 b false P0 P1 Q0 Q1 := ⟨fun e => .inr (h e), fun e => .inr (k e)⟩
theorem M_same {t : Nat} {x : EV} (h : (M sl bx).get t = some x) : M ((t, x) :: sl) bx = M sl bx := by
 simp only [M, lq_cons]
 congr 1
 funext i
 simp only [upd]
 split
 · rename_i hi; subst hi; exact h.symm
 · rfl
theorem M_under {t d : Nat} {x y : EV} (h : (M sl bx).get t = some x) : M ((d, y) :: (t, x) :: sl) bx = M ((d, y) :: sl) bx := by
 have := M_same (bx := bx) h
 simp only [M, lq_cons, Env.mk.injEq, and_true] at this ⊢
 rw [this]
theorem r_guard {t : Nat} {want b w' : Bool} (hg : (M sl bx).get t = some (.h (.v (.bool b)))) (hw : (!want) = w')
   (h : G3 b want (rsem S (⟨some d, o, none⟩ :: os) (M sl bx) H K) (rsem S (⟨some d, o, none⟩ :: os) (M ((t, .h (.v (.bool want))) :: sl) bx) H K)
     (rsem S os (M ((d, .h .undef) :: sl) bx) H K) (rsem S os (M ((d, .h .undef) :: (t, .h (.v (.bool w'))) :: sl) bx) H K)) :
   rsem S (⟨some d, o, some (t, want)⟩ :: os) (M sl bx) H K := by
 subst hw
 rw [rsem_guard, hg]
 simp only [M_put]
 refine ⟨fun e => ?_, fun e => ?_⟩
 · rcases h.1 e with h' | h'
   · subst e; rw [M_same hg]; exact h'
   · exact h'
 · rcases h.2 e with h' | h'
   · subst e; rw [M_under hg]; exact h'
   · exact h'
theorem r_eq {k : EqK} {x y : Opd} {a b : HV} {t : Bool} (hx : (M sl bx).hv x = some a) (hy : (M sl bx).hv y = some b) (he : eqv k a b = some t) (h : rsem S os (M ((d, .h (B t)) :: sl) bx) H K) : rsem S (⟨some d, .eq k false x y, none⟩ :: os) (M sl bx) H K :=
 r_calm rfl (by simp only [SOp.ev, hx, hy, he]; rfl) h
theorem r_ne {k : EqK} {x y : Opd} {a b : HV} {t t' : Bool} (hx : (M sl bx).hv x = some a) (hy : (M sl bx).hv y = some b) (he : eqv k a b = some t) (ht : (!t) = t') (h : rsem S os (M ((d, .h (B t')) :: sl) bx) H K) : rsem S (⟨some d, .eq k true x y, none⟩ :: os) (M sl bx) H K :=
 r_calm rfl (by subst ht; simp only [SOp.ev, hx, hy, he]; rfl) h
theorem r_not {x : Opd} {t t' : Bool} (hx : (M sl bx).hv x = some (B t)) (ht : (!t) = t') (h : rsem S os (M ((d, .h (B t')) :: sl) bx) H K) : rsem S (⟨some d, .not x, none⟩ :: os) (M sl bx) H K :=
 r_calm rfl (by subst ht; simp only [SOp.ev, hx]) h
theorem r_cmp {op : BinOp} {x y : Opd} {a b : Int} {t : Bool} (hx : (M sl bx).hv x = some (I a)) (hy : (M sl bx).hv y = some (I b)) (ht : intOp op .i64 a .i64 b = some (B t)) (h : rsem S os (M ((d, .h (B t)) :: sl) bx) H K) : rsem S (⟨some d, .int op x y, none⟩ :: os) (M sl bx) H K :=
 r_calm rfl (by simp only [SOp.ev, hx, hy, ht, Option.map_some]) h
theorem r_guardu {t : Nat} {want : Bool} {vs : Array Value} (hg : (M sl bx).get t = some (.h (.v (.tuple vs)))) (h : rsem S os (M ((d, .h .undef) :: sl) bx) H K) :
   rsem S (⟨some d, o, some (t, want)⟩ :: os) (M sl bx) H K := by
 rw [rsem_guard, hg]
 simp only [M_put]
 exact h
theorem load_heap {agg : Bool} {n b off : Nat} {a : Opd} {cs : List HV} {v : HV} (ha : e.opd a = some (.h (.v (.pointer (some ⟨b, off, none⟩))))) (hH : H b = some (.obj cs)) (hv : loadv agg n off cs = some v) : (SOp.load agg n a).ev e H = some (.h v) := by
 simp only [SOp.ev, ha, hH, hv, Option.map_some]
theorem r_load {agg : Bool} {n b off : Nat} {a : Opd} {cs : List HV} {v : HV} (ha : (M sl bx).opd a = some (.h (.v (.pointer (some ⟨b, off, none⟩))))) (hH : H b = some (.obj cs)) (hv : loadv agg n off cs = some v)
   (h : rsem S os (M ((d, .h v) :: sl) bx) H K) : rsem S (⟨some d, .load agg n a, none⟩ :: os) (M sl bx) H K := r_calm rfl (load_heap ha hH hv) h
theorem load_box {agg : Bool} {n k off : Nat} {a : Opd} {cs : List HV} {v : HV} (ha : e.opd a = some (.lp k off)) (hH : e.box k = some cs) (hv : loadv agg n off cs = some v) : (SOp.load agg n a).ev e H = some (.h v) := by
 simp only [SOp.ev, ha, hH, hv, Option.map_some]
theorem load_rp {agg : Bool} {n : Nat} {a : Opd} {cs : List HV} {v : HV} (ha : e.opd a = some (.h (.rp cs))) (hv : loadv agg n 0 cs = some v) : (SOp.load agg n a).ev e H = some (.h v) := by
 simp only [SOp.ev, ha, hv, Option.map_some]
theorem r_loadb {agg : Bool} {n k off : Nat} {a : Opd} {cs : List HV} {v : HV} (ha : (M sl bx).opd a = some (.lp k off)) (hH : (M sl bx).box k = some cs) (hv : loadv agg n off cs = some v)
   (h : rsem S os (M ((d, .h v) :: sl) bx) H K) : rsem S (⟨some d, .load agg n a, none⟩ :: os) (M sl bx) H K := r_calm rfl (load_box ha hH hv) h
theorem r_loadr {agg : Bool} {n : Nat} {a : Opd} {cs : List HV} {v : HV} (ha : (M sl bx).opd a = some (.h (.rp cs))) (hv : loadv agg n 0 cs = some v)
   (h : rsem S os (M ((d, .h v) :: sl) bx) H K) : rsem S (⟨some d, .load agg n a, none⟩ :: os) (M sl bx) H K := r_calm rfl (load_rp ha hv) h
theorem idx_ev {sz : Nat} {x i : Opd} {tk : Tk} {es : List HV} {k : IntKind} {j : Nat} {z : Int} {h0 : HV} {cs : List HV} (hx : e.hv x = some (.sl tk sz es)) (hi : e.hv i = some (.v (.int k z))) (hz : z = (j : Int)) (hj : es[j]? = some h0) (hc : h0.cells = cs) :
   (SOp.idx sz x i).ev e H = some (.h (.rp cs)) := by
 subst hz
 simp only [SOp.ev, hx, hi, Int.toNat_natCast, hj, Option.map_some, hc]
 rw [if_pos ⟨trivial, Int.natCast_nonneg j⟩]
theorem r_idx {sz : Nat} {x i : Opd} {tk : Tk} {es : List HV} {k : IntKind} {j : Nat} {z : Int} {h0 : HV} {cs : List HV} (hx : (M sl bx).hv x = some (.sl tk sz es)) (hi : (M sl bx).hv i = some (.v (.int k z))) (hz : z = (j : Int)) (hj : es[j]? = some h0) (hc : h0.cells = cs)
   (h : rsem S os (M ((d, .h (.rp cs)) :: sl) bx) H K) : rsem S (⟨some d, .idx sz x i, none⟩ :: os) (M sl bx) H K := r_calm rfl (idx_ev hx hi hz hj hc) h
theorem len_ev {x : Opd} {tk : Tk} {sz : Nat} {es : List HV} {n : Nat} (hx : e.hv x = some (.sl tk sz es)) (hn : es.length = n) : (SOp.len x).ev e H = some (.h (I n)) := by
 subst hn; simp only [SOp.ev, hx]
theorem r_len {x : Opd} {tk : Tk} {sz : Nat} {es : List HV} {n : Nat} (hx : (M sl bx).hv x = some (.sl tk sz es)) (hn : es.length = n) (h : rsem S os (M ((d, .h (I n)) :: sl) bx) H K) :
   rsem S (⟨some d, .len x, none⟩ :: os) (M sl bx) H K := r_calm rfl (len_ev hx hn) h
theorem int_add {x y : Opd} {a b : Int} (hx : e.hv x = some (I a)) (hy : e.hv y = some (I b)) (hb : -9223372036854775808 ≤ a + b ∧ a + b ≤ 9223372036854775807) : (SOp.int .add x y).ev e H = some (.h (I (a + b))) := by
 simp only [SOp.ev, hx, hy, intOp, if_true, Option.map_some, wrap_in hb.1 hb.2]
theorem int_sub {x y : Opd} {a b : Int} (hx : e.hv x = some (I a)) (hy : e.hv y = some (I b)) (hb : -9223372036854775808 ≤ a - b ∧ a - b ≤ 9223372036854775807) : (SOp.int .sub x y).ev e H = some (.h (I (a - b))) := by
 simp only [SOp.ev, hx, hy, intOp, if_true, Option.map_some, wrap_in hb.1 hb.2]
theorem int_mul {x y : Opd} {a b : Int} (hx : e.hv x = some (I a)) (hy : e.hv y = some (I b)) (hb : -9223372036854775808 ≤ a * b ∧ a * b ≤ 9223372036854775807) : (SOp.int .mul x y).ev e H = some (.h (I (a * b))) := by
 simp only [SOp.ev, hx, hy, intOp, if_true, Option.map_some, wrap_in hb.1 hb.2]
theorem r_add {x y : Opd} {a b : Int} (hx : (M sl bx).hv x = some (I a)) (hy : (M sl bx).hv y = some (I b)) (hb : -9223372036854775808 ≤ a + b ∧ a + b ≤ 9223372036854775807)
   (h : rsem S os (M ((d, .h (I (a + b))) :: sl) bx) H K) : rsem S (⟨some d, .int .add x y, none⟩ :: os) (M sl bx) H K := r_calm rfl (int_add hx hy hb) h
theorem r_sub {x y : Opd} {a b : Int} (hx : (M sl bx).hv x = some (I a)) (hy : (M sl bx).hv y = some (I b)) (hb : -9223372036854775808 ≤ a - b ∧ a - b ≤ 9223372036854775807)
   (h : rsem S os (M ((d, .h (I (a - b))) :: sl) bx) H K) : rsem S (⟨some d, .int .sub x y, none⟩ :: os) (M sl bx) H K := r_calm rfl (int_sub hx hy hb) h
theorem r_mul {x y : Opd} {a b : Int} (hx : (M sl bx).hv x = some (I a)) (hy : (M sl bx).hv y = some (I b)) (hb : -9223372036854775808 ≤ a * b ∧ a * b ≤ 9223372036854775807)
   (h : rsem S os (M ((d, .h (I (a * b))) :: sl) bx) H K) : rsem S (⟨some d, .int .mul x y, none⟩ :: os) (M sl bx) H K := r_calm rfl (int_mul hx hy hb) h
theorem r_conv {x : Opd} {k : IntKind} {a : Int} (hx : (M sl bx).hv x = some (.v (.int k a))) (hb : -9223372036854775808 ≤ a ∧ a ≤ 9223372036854775807) (h : rsem S os (M ((d, .h (I a)) :: sl) bx) H K) : rsem S (⟨some d, .conv .i64 x, none⟩ :: os) (M sl bx) H K :=
 r_calm rfl (by simp only [SOp.ev, hx, wrap_in hb.1 hb.2]) h
theorem r_rem {x y : Opd} {a b : Int} (hx : (M sl bx).hv x = some (I a)) (hy : (M sl bx).hv y = some (I b)) (hb : 0 ≤ a ∧ 0 < b) (h : rsem S os (M ((d, .h (I (a % b))) :: sl) bx) H K) : rsem S (⟨some d, .int .rem x y, none⟩ :: os) (M sl bx) H K :=
 r_calm rfl (by
   simp only [SOp.ev, hx, hy, intOp]
   rw [if_pos ⟨trivial, by omega⟩, Int.tmod_eq_emod_of_nonneg hb.1, Option.map_some]) h
theorem r_max {x y : Opd} {a b : Int} (hx : (M sl bx).hv x = some (I a)) (hy : (M sl bx).hv y = some (I b)) (h : rsem S os (M ((d, .h (I (max a b))) :: sl) bx) H K) : rsem S (⟨some d, .mm true x y, none⟩ :: os) (M sl bx) H K := by
 have e : (if b > a then b else a) = max a b := by rw [Int.max_def]; split <;> split <;> omega
 exact r_calm rfl (by simp only [SOp.ev, hx, hy, if_true, e]) h
theorem r_min {x y : Opd} {a b : Int} (hx : (M sl bx).hv x = some (I a)) (hy : (M sl bx).hv y = some (I b)) (h : rsem S os (M ((d, .h (I (min a b))) :: sl) bx) H K) : rsem S (⟨some d, .mm false x y, none⟩ :: os) (M sl bx) H K := by
 have e : (if b < a then b else a) = min a b := by rw [Int.min_def]; split <;> split <;> omega
 exact r_calm rfl (by simp only [SOp.ev, hx, hy, if_true, if_false, Bool.false_eq_true, e]) h
theorem r_alloc {k : Nat} {cs : List HV} (hk : (M sl bx).box k = none) (h : rsem S os (M ((d, .lp k 0) :: sl) ((k, cs) :: bx)) H K) : rsem S (⟨some d, .alloc (some k) cs, none⟩ :: os) (M sl bx) H K := by
 rw [rsem_cons]
 refine ⟨hk, ?_⟩
 rw [rK_app, M_setb, M_put]; exact h
theorem r_allocH {cs : List HV} (h : ∀ b, H b = none → rsem S os (M ((d, .h (ptr b)) :: sl) bx) (H.upd b (some (.obj cs))) K) : rsem S (⟨some d, .alloc none cs, none⟩ :: os) (M sl bx) H K := by
 rw [rsem_cons]
 intro b hb
 rw [rK_app, M_put]; exact h b hb
theorem r_box {k n : Nat} {x : Opd} {v : HV} {cs : List HV} (hx : (M sl bx).hv x = some v) (hc : v.cells = cs) (h1 : v.ncells = n) (h2 : v.el = true) (hk : (M sl bx).box k = none) (h : rsem S os (M ((d, .lp k 0) :: sl) ((k, cs) :: bx)) H K) : rsem S (⟨some d, .box (some k) n x, none⟩ :: os) (M sl bx) H K := by
 rw [rsem_cons]
 simp only [SOp.step, hx]
 refine ⟨h1, h2, hk, ?_⟩
 rw [rK_app, M_setb, M_put, hc]; exact h
theorem r_boxH {n : Nat} {x : Opd} {v : HV} {cs : List HV} (hx : (M sl bx).hv x = some v) (hc : v.cells = cs) (h1 : v.ncells = n) (h2 : v.el = true) (h : ∀ b, H b = none → rsem S os (M ((d, .h (ptr b)) :: sl) bx) (H.upd b (some (.obj cs))) K) : rsem S (⟨some d, .box none n x, none⟩ :: os) (M sl bx) H K := by
 rw [rsem_cons]
 simp only [SOp.step, hx]
 refine ⟨h1, h2, fun b hb => ?_⟩
 rw [rK_app, M_put, hc]; exact h b hb
theorem r_boxX {n : Nat} {x : Opd} {v : HV} {cs : List HV} (hx : (M sl bx).hv x = some v) (hc : v.cells = cs) (h1 : v.ncells = n) (h2 : v.el = true) (h : ∀ b X, H b = none → X b = some (.obj cs) → Fr [] H X → H.sub X → rsem S os (M ((d, .h (ptr b)) :: sl) bx) X K) : rsem S (⟨some d, .box none n x, none⟩ :: os) (M sl bx) H K :=
 r_boxH hx hc h1 h2 fun b hb => h b _ hb (Heap.upd_same _ _ _) (Fr.new hb) (Heap.sub_new hb)
theorem r_bslice {sz : Nat} {ps : List Opd} {hs : List HV} (hp : (M sl bx).hvs ps = some hs) (h1 : hs.all HV.el = true) (h2 : hs.all (fun h => Nat.beq h.ncells sz) = true) (h : rsem S os (M ((d, .h (.sl .full sz hs)) :: sl) bx) H K) : rsem S (⟨some d, .bslice sz ps, none⟩ :: os) (M sl bx) H K := by
 rw [rsem_cons]
 simp only [SOp.step, hp]
 refine ⟨h1, fun x hx => Nat.eq_of_beq_eq_true (List.all_eq_true.mp h2 x hx), ?_⟩
 rw [rK_app, M_put]; exact h
theorem r_storeb {n k off : Nat} {a x : Opd} {v : HV} {cs cs' : List HV} (hx : (M sl bx).hv x = some v) (h1 : v.ncells = n) (h2 : v.el = true) (ha : (M sl bx).opd a = some (.lp k off)) (hk : (M sl bx).box k = some cs) (hl : Nat.ble (off + n) cs.length = true) (hc : setL cs off v.cells = cs')
   (h : rsem S os (M sl ((k, cs') :: bx)) H K) : rsem S (⟨none, .store n a x, none⟩ :: os) (M sl bx) H K := by
 rw [rsem_cons]
 simp only [SOp.step, hx, ha, hk]
 refine ⟨h1, h2, Nat.le_of_ble_eq_true hl, ?_⟩
 rw [rK_app, M_setb, M_put0, hc]; exact h
theorem r_storeH {n b off : Nat} {a x : Opd} {v : HV} {cs cs' : List HV} (hx : (M sl bx).hv x = some v) (h1 : v.ncells = n) (h2 : v.el = true) (ha : (M sl bx).opd a = some (.h (.v (.pointer (some ⟨b, off, none⟩))))) (hk : H b = some (.obj cs)) (hl : Nat.ble (off + n) cs.length = true) (hc : setL cs off v.cells = cs')
   (h : rsem S os (M sl bx) (H.upd b (some (.obj cs'))) K) : rsem S (⟨none, .store n a x, none⟩ :: os) (M sl bx) H K := by
 rw [rsem_cons]
 simp only [SOp.step, hx, ha, hk]
 refine ⟨h1, h2, Nat.le_of_ble_eq_true hl, ?_⟩
 rw [rK_app, M_put0, hc]; exact h
theorem r_storeX {n b off : Nat} {a x : Opd} {v : HV} {cs cs' : List HV} (hx : (M sl bx).hv x = some v) (h1 : v.ncells = n) (h2 : v.el = true) (ha : (M sl bx).opd a = some (.h (.v (.pointer (some ⟨b, off, none⟩))))) (hk : H b = some (.obj cs)) (hl : Nat.ble (off + n) cs.length = true) (hc : setL cs off v.cells = cs')
   (h : ∀ X, X b = some (.obj cs') → Fr [b] H X → rsem S os (M sl bx) X K) : rsem S (⟨none, .store n a x, none⟩ :: os) (M sl bx) H K :=
 r_storeH hx h1 h2 ha hk hl hc (h _ (Heap.upd_same _ _ _) (Fr.set (by simp)))
theorem r_call {g : Nat} {args : List Opd} {hs : List HV} (ha : (M sl bx).hvs args = some hs) (h : S g hs H fun r H' => rsem S os (M ((d, .h r) :: sl) bx) H' K) : rsem S (⟨some d, .call g args, none⟩ :: os) (M sl bx) H K := by
 rw [rsem_cons]
 simp only [SOp.step, ha]
 have : (fun (h : HV) (H' : Heap) => rK S os K (some d) (EV.h h) (M sl bx) H') = fun r H' => rsem S os (M ((d, .h r) :: sl) bx) H' K := by
   funext r H'; rw [rK_app, M_put]
 rw [this]; exact h
theorem r_callv {x : Opd} {g : Nat} {caps : List HV} {args : List Opd} {hs : List HV} (hx : (M sl bx).hv x = some (.fn g caps)) (ha : (M sl bx).hvs args = some hs) (h : S g (hs ++ caps) H fun r H' => rsem S os (M ((d, .h r) :: sl) bx) H' K) : rsem S (⟨some d, .callv x args, none⟩ :: os) (M sl bx) H K := by
 rw [rsem_cons]
 simp only [SOp.step, hx, ha]
 have : (fun (h : HV) (H' : Heap) => rK S os K (some d) (EV.h h) (M sl bx) H') = fun r H' => rsem S os (M ((d, .h r) :: sl) bx) H' K := by
   funext r H'; rw [rK_app, M_put]
 rw [this]; exact h
theorem r_callm {x : Opd} {g : Nat} {r0 : HV} {args : List Opd} {hs : List HV} (hx : (M sl bx).hv x = some (.fm g r0)) (ha : (M sl bx).hvs args = some hs) (h : S g (r0 :: hs) H fun r H' => rsem S os (M ((d, .h r) :: sl) bx) H' K) : rsem S (⟨some d, .callv x args, none⟩ :: os) (M sl bx) H K := by
 rw [rsem_cons]
 simp only [SOp.step, hx, ha]
 have : (fun (h : HV) (H' : Heap) => rK S os K (some d) (EV.h h) (M sl bx) H') = fun r H' => rsem S os (M ((d, .h r) :: sl) bx) H' K := by
   funext r H'; rw [rK_app, M_put]
 rw [this]; exact h
theorem r_app {sz bytes : Nat} {x y : Opd} {tk tk2 : Tk} {xs ys : List HV} (hx : (M sl bx).hv x = some (.sl tk sz xs)) (hy : (M sl bx).hv y = some (.sl tk2 sz ys)) (ht : Tok H tk xs.length sz)
   (hb : (xs.length + ys.length) * bytes ≤ 140737488355328)
   (hk : ∀ tk' H', Tok H' tk' (xs.length + ys.length) sz → Apd H H' tk tk' → rsem S os (M ((d, .h (.sl tk' sz (xs ++ ys))) :: sl) bx) H' K) : rsem S (⟨some d, .app sz bytes x y, none⟩ :: os) (M sl bx) H K := by
 rw [rsem_cons]
 refine app_one hx hy ht hb fun tk' H' h1 h2 => ?_
 rw [rK_app, M_put]; exact hk tk' H' h1 h2
theorem r_app0 {sz bytes : Nat} {x y : Opd} {tk2 : Tk} {ys : List HV} (hx : (M sl bx).hv x = some (.v (.slice none 0 0))) (hy : (M sl bx).hv y = some (.sl tk2 sz ys))
   (hb : ys.length * bytes ≤ 140737488355328)
   (hk0 : ys = [] → rsem S os (M ((d, .h (.v (.slice none 0 0))) :: sl) bx) H K)
   (hk : ∀ tk' H', ys ≠ [] → Tok H' tk' ys.length sz → Apd H H' .full tk' → rsem S os (M ((d, .h (.sl tk' sz ys)) :: sl) bx) H' K) : rsem S (⟨some d, .app sz bytes x y, none⟩ :: os) (M sl bx) H K := by
 rw [rsem_cons]
 refine app_nil hx hy hb (fun h0 => ?_) fun tk' H' h1 h2 h3 => ?_
 · rw [rK_app, M_put]; exact hk0 h0
 · rw [rK_app, M_put]; exact hk tk' H' h1 h2 h3
theorem d_nil {L : List DOper} (h : K e H) : dsem S L [] e H K := h
def DK (S : SpecT) (L : List DOper) (rc is : List Nat) (K : Env → Heap → Prop) : Env → Heap → Prop := fun e H => rcok L rc e H ∧ dsem S L is e H K
theorem d_cons {L : List DOper} {i : Nat} {is : List Nat} {o : SOper} {rc : List Nat} (hi : L[i]! = ⟨o, rc⟩) (h : rsem S [o] e H (DK S L rc is K)) : dsem S L (i :: is) e H K := by
 rw [dsem_cons, hi]
 exact h
theorem dsem_plain (hS : SMono S) {L : List DOper} (hL : L.all (fun x => x.rc.isEmpty) = true) : ∀ (is : List Nat) (e : Env) (H : Heap), (∀ i ∈ is, i < L.length) → rsem S (is.map fun i => (L[i]!).o) e H K → dsem S L is e H K
 | [], e, H, _, h => h
 | i :: is, e, H, hi, h => by
   have hrc : (L[i]!).rc = [] := by
     have hlt := hi i (by simp)
     have := List.all_eq_true.mp hL L[i] (List.getElem_mem hlt)
     rw [getElem!_pos L i hlt]
     simpa using this
   rw [dsem_cons]
   have hm : ∀ (e' : Env) (H' : Heap), rsem S (is.map fun i => (L[i]!).o) e' H' K → rcok L (L[i]!).rc e' H' ∧ dsem S L is e' H' K :=
     fun e' H' h' => ⟨by rw [hrc]; trivial, dsem_plain hS hL is e' H' (fun j hj => hi j (by simp [hj])) h'⟩
   refine rsem1_mono hS (K := fun e' H' => rsem S (is.map fun i => (L[i]!).o) e' H' K) (fun e' H' h' => hm e' H' h') _ _ _ ?_
   exact h
theorem range_map {L : List DOper} : (List.range L.length).map (fun i => (L[i]!).o) = L.map (·.o) := by
 apply List.ext_getElem
 · simp
 · intro i h1 h2
   have : i < L.length := by simpa using h2
   simp [this]
theorem c_dplain (hS : SMono S) {perm : List Nat} {L : List DOper} {ops : List SOper} (hL : L.all (fun x => x.rc.isEmpty) = true) (ho : L.map (·.o) = ops) (h : rsem S ops e H (normK Q)) : csem S (.dreg perm L) e H Q := by
 rw [csem_dreg]
 refine dsem_plain hS hL _ e H (fun i hi => List.mem_range.mp hi) ?_
 rw [range_map, ho]; exact h
theorem dk_nil {L : List DOper} {is : List Nat} (h : dsem S L is e H K) : DK S L [] is K e H := ⟨trivial, h⟩
theorem dk_cons {L : List DOper} {z : Nat} {rc is : List Nat} {o : SOper} {r : List Nat} (hi : L[z]! = ⟨o, r⟩) (h1 : rc1 o e H) (h : DK S L rc is K e H) : DK S L (z :: rc) is K e H := ⟨⟨by rw [hi]; exact h1, h.1⟩, h.2⟩
theorem rc_ev {d : Nat} {o : SOp} {x : EV} (h : o.ev e H = some x) (hg : e.get d = some x) : rc1 ⟨some d, o, none⟩ e H := h.trans hg.symm
theorem rc_evg {d t : Nat} {w : Bool} {o : SOp} {x : EV} (h : o.ev e H = some x) (hg : e.get d = some x) : rc1 ⟨some d, o, some (t, w)⟩ e H := fun _ => h.trans hg.symm
theorem leM {sl' : List (Nat × EV)} {bx' : List (Nat × List HV)} (h1 : leL sl' e) (h2 : leB bx' e) (h3 : lpOk bx' sl') : (M sl' bx').le e := by rw [M_of]; exact le_of h1 h2 h3
theorem leL_nil : leL [] e := trivial
theorem leL_eq {t : Nat} {x x' : EV} {r : List (Nat × EV)} (h : e.get t = some x') (hx : x' = x) (k : leL r e) : leL ((t, x) :: r) e := ⟨⟨x', h, .inl hx⟩, k⟩
theorem leL_w {t : Nat} {x x' : HV} {r : List (Nat × EV)} (h : e.get t = some (.h x')) (hx : Weak x' x) (k : leL r e) : leL ((t, .h x) :: r) e := ⟨⟨.h x', h, .inr hx⟩, k⟩
theorem leB_nil : leB [] e := trivial
theorem leB_eq {t : Nat} {x x' : List HV} {r : List (Nat × List HV)} (h : e.box t = some x') (hx : x' = x) (k : leB r e) : leB ((t, x) :: r) e := ⟨⟨x', h, .inl hx⟩, k⟩
theorem leB_w {t : Nat} {x x' : List HV} {r : List (Nat × List HV)} (h : e.box t = some x') (hx : WeakL x' x) (h1 : x.all HV.one = true) (k : leB r e) : leB ((t, x) :: r) e := ⟨⟨x', h, .inr ⟨hx, h1⟩⟩, k⟩
theorem csem_loopM {ι : Type} (hS : SMono S) {b : SC} (E : ι → List (Nat × EV)) (F : ι → List (Nat × List HV)) (J : ι → Heap → Prop) (μ : ι → Nat) (i0 : ι) (h0 : (M (E i0) (F i0)).le e) (hJ : J i0 H)
   (round : ∀ i H, J i H → csem S b (M (E i) (F i)) H fun ex e' H' => match ex with
     | .normal => ∃ j, μ j < μ i ∧ (M (E j) (F j)).le e' ∧ J j H'
     | ex => Q ex e' H') : csem S (.loop b) e H Q :=
 csem_loop hS (fun i => M (E i) (F i)) J μ i0 h0 hJ round
def RK {ι : Type} (E : ι → List (Nat × EV)) (F : ι → List (Nat × List HV)) (J : ι → Heap → Prop) (μ : ι → Nat) (i : ι) (Q : SEx → Env → Heap → Prop) : SEx → Env → Heap → Prop := fun ex e' H' => match ex with
     | .normal => ∃ j, μ j < μ i ∧ (M (E j) (F j)).le e' ∧ J j H'
     | ex => Q ex e' H'
theorem c_loop {ι : Type} (hS : SMono S) {b : SC} (E : ι → List (Nat × EV)) (F : ι → List (Nat × List HV)) (J : ι → Heap → Prop) (μ : ι → Nat) (i0 : ι) (h0 : (M (E i0) (F i0)).le e) (hJ : J i0 H)
   (round : ∀ i H, J i H → csem S b (M (E i) (F i)) H (RK E F J μ i Q)) : csem S (.loop b) e H Q := csem_loopM hS E F J μ i0 h0 hJ round
theorem k_n {ι : Type} {E : ι → List (Nat × EV)} {F : ι → List (Nat × List HV)} {J : ι → Heap → Prop} {μ : ι → Nat} {i : ι} (j : ι) (hm : μ j < μ i) (hJ : J j H) (hl : (M (E j) (F j)).le e) : RK E F J μ i Q .normal e H := ⟨j, hm, hl, hJ⟩
theorem k_e {ι : Type} {E : ι → List (Nat × EV)} {F : ι → List (Nat × List HV)} {J : ι → Heap → Prop} {μ : ι → Nat} {i : ι} {x : Nat} (h : Q (.exit x) e H) : RK E F J μ i Q (.exit x) e H := h
theorem k_r {ι : Type} {E : ι → List (Nat × EV)} {F : ι → List (Nat × List HV)} {J : ι → Heap → Prop} {μ : ι → Nat} {i : ι} (h : Q .ret e H) : RK E F J μ i Q .ret e H := h
def JK {ι : Type} (E : ι → List (Nat × EV)) (F : ι → List (Nat × List HV)) (J : ι → Heap → Prop) (Q : SEx → Env → Heap → Prop) : SEx → Env → Heap → Prop := fun ex e' H' => match ex with
     | .normal => ∃ j, (M (E j) (F j)).le e' ∧ J j H'
     | ex => Q ex e' H'
theorem c_join {ι : Type} (hS : SMono S) {a b : SC} (E : ι → List (Nat × EV)) (F : ι → List (Nat × List HV)) (J : ι → Heap → Prop) (h1 : csem S a e H (JK E F J Q)) (h2 : ∀ i H, J i H → csem S b (M (E i) (F i)) H Q) : csem S (.seq a b) e H Q := by
 rw [csem_seq]
 refine csem_S (fun _ _ _ _ h => h) hS a ?_ h1
 intro ex e' H' hk
 cases ex
 · obtain ⟨j, g1, g2⟩ := hk
   exact ⟨_, H', VS.le g1, h2 j H' g2⟩
 · exact hk
 · exact hk
theorem j_n {ι : Type} {E : ι → List (Nat × EV)} {F : ι → List (Nat × List HV)} {J : ι → Heap → Prop} (j : ι) (hJ : J j H) (hl : (M (E j) (F j)).le e) : JK E F J Q .normal e H := ⟨j, hl, hJ⟩
theorem j_e {ι : Type} {E : ι → List (Nat × EV)} {F : ι → List (Nat × List HV)} {J : ι → Heap → Prop} {x : Nat} (h : Q (.exit x) e H) : JK E F J Q (.exit x) e H := h
theorem j_r {ι : Type} {E : ι → List (Nat × EV)} {F : ι → List (Nat × List HV)} {J : ι → Heap → Prop} (h : Q .ret e H) : JK E F J Q .ret e H := h
theorem r_isnil {x : Opd} {tk : Tk} {sz : Nat} {es : List HV} (hx : (M sl bx).hv x = some (.sl tk sz es)) (h : ∀ t : Bool, (t = true → es = []) → rsem S os (M ((d, .h (B t)) :: sl) bx) H K) : rsem S (⟨some d, .nd (.isnil false) [x], none⟩ :: os) (M sl bx) H K := by
 rw [rsem_cons]
 have hh : (M sl bx).hvs [x] = some [.sl tk sz es] := by simp [Env.hvs, hx]
 simp only [SOp.step, hh, ndK]
 intro t ht
 rw [rK_app, M_put]; exact h t ht
theorem r_isnil0 {ne : Bool} {x : Opd} {n c : Nat} {b : Bool} (hx : (M sl bx).hv x = some (.v (.slice none n c))) (hb : (!ne) = b) (h : rsem S os (M ((d, .h (B b)) :: sl) bx) H K) : rsem S (⟨some d, .nd (.isnil ne) [x], none⟩ :: os) (M sl bx) H K := by
 rw [rsem_cons]
 have hh : (M sl bx).hvs [x] = some [.v (.slice none n c)] := by simp [Env.hvs, hx]
 simp only [SOp.step, hh, ndK]
 rw [rK_app, M_put, hb]; exact h
end
end Sm
