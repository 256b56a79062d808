/-
  T1,T2,T3,T4,T5,T6,T7,T8,T9,T10
-/
import Derived.Test.YtegmmhldpmmkeaaGreatDoorSmLH
import Derived.Test.YtegmmhldpmmkeaaGreatDoorSmLf
set_option linter.unusedVariables false
set_option linter.unusedSimpArgs false
set_option maxRecDepth 10000
set_option maxHeartbeats 1000000
namespace Sm
open Go
def Pure (L : Linked code) (g : Nat) (args : List HV) (r : HV) : Prop := ∀ H K, K r H → Spec L.P L.ν g args H K
theorem Tok.ful (H : Heap) (n sz : Nat) : Tok H .full n sz := trivial
def lix : List UInt8 → UInt8 → Int
 | [], _ => -1
 | b :: l, c => if 0 ≤ lix l c then lix l c + 1 else if b == c then 0 else -1
theorem lix_none : ∀ {l : List UInt8} {c : UInt8}, (∀ k (hk : k < l.length), l[k] ≠ c) → lix l c = -1
 | [], c, _ => rfl
 | b :: l, c, h => by
   have ih := lix_none (l := l) (c := c) fun k hk => h (k + 1) (Nat.succ_lt_succ hk)
   have h0 : b ≠ c := h 0 (Nat.succ_pos _)
   rw [lix, ih]; simp [h0]
theorem lix_at : ∀ {l : List UInt8} {c : UInt8} {i : Nat} (hi : i < l.length), l[i] = c → (∀ k (hk : k < l.length), i < k → l[k] ≠ c) → lix l c = i
 | [], c, i, hi, _, _ => by simp at hi
 | b :: l, c, 0, hi, h, hb => by
   have h0 := lix_none (l := l) (c := c) fun k hk => hb (k + 1) (Nat.succ_lt_succ hk) (by omega)
   have : b = c := by simpa using h
   rw [lix, h0]; simp [this]
 | b :: l, c, i + 1, hi, h, hb => by
   have ih := lix_at (l := l) (c := c) (i := i) (by simpa using hi) (by simpa using h) fun k hk hik => hb (k + 1) (Nat.succ_lt_succ hk) (by omega)
   rw [lix, ih]
   rw [if_pos (by omega)]; omega
theorem lix_bd : ∀ (l : List UInt8) (c : UInt8), -1 ≤ lix l c ∧ lix l c < l.length
 | [], c => by simp [lix]
 | b :: l, c => by
   have := lix_bd l c
   rw [lix]
   simp only [List.length_cons]
   split
   · omega
   · split <;> omega
theorem byte_eq {a b : UInt8} : (((a.toNat : Nat) : Int) == ((b.toNat : Nat) : Int)) = (a == b) := by
 rw [Bool.eq_iff_iff]
 simp only [beq_iff_eq]
 constructor
 · intro h; exact UInt8.toNat_inj.1 (by omega)
 · rintro rfl; rfl
attribute [local irreducible] csem rsem dsem seqK blockK normK finK DK RK JK BR G3 resK Spec Tok Fr
theorem lixS_spec (L : Linked code) (l : List UInt8) (c : UInt8) (hl : l.length ≤ 1048576) : Pure L 206 [S l, U c] (I (lix l c)) := by
 intro H K hk
 refine go_spec L code206 rfl ?_
 repeat (refine gk trivial ?_)
 refine c_loop (Spec_SMono L) (fun (k : Nat) => [(0, .h (S l)), (1, .h (U c)), (5, .h (I ((k : Int) - 1)))]) (fun _ => []) (fun k H' => H' = H ∧ k ≤ l.length ∧ ∀ m (hm : m < l.length), k ≤ m → l[m] ≠ c) (fun k => k) l.length ?_ ⟨rfl, by omega, fun m hm h => by omega⟩ ?_
 · (refine leM ?_ ?_ ?_ <;> (repeat refine leS trivial ?_) <;> exact leE)
 rintro k H' ⟨rfl, hkl, hb⟩
 repeat (refine gk trivial ?_)
 (refine ct trivial ?_ ?_ <;> intro h)
 · have hk1 : 1 ≤ k := by have : (0 : Int) ≤ (k : Int) - 1 := by simpa using h
                          omega
   repeat (refine gk trivial ?_)
   apply r_sidx (j := k - 1); (focus rfl); (focus rfl); (focus omega); (focus exact List.getElem?_eq_getElem (by omega))
   repeat (refine gk trivial ?_)
   rw [byte_eq]
   (refine ct trivial ?_ ?_ <;> intro h2)
   · have e := lix_at (c := c) (show k - 1 < l.length by omega) (by simpa using h2) (fun m hm h3 => hb m hm (by omega))
     repeat (refine gk trivial ?_)
     have e2 : (k : Int) - 1 = lix l c := by rw [e]; omega
     rw [e2]
     exact resK_some hk
   · repeat (refine gk trivial ?_)
     refine k_n (k - 1) (by omega) ⟨rfl, by omega, fun m hm h3 => ?_⟩ ?_
     · rcases Nat.eq_or_lt_of_le h3 with h4 | h4
       · subst h4; simpa using h2
       · exact hb m hm (by omega)
     · have e : (((k - 1 : Nat) : Int) - 1) = (k : Int) - 1 - 1 := by omega
       (refine leM ?_ ?_ ?_ <;> (repeat refine leS e ?_) <;> exact leE)
 · have hk0 : k = 0 := by have : ¬ (0 : Int) ≤ (k : Int) - 1 := by simpa using h
                          omega
   subst hk0
   repeat (refine gk trivial ?_)
   rw [lix_none (l := l) (c := c) fun m hm => hb m hm (by omega)] at hk
   exact resK_some hk
end Sm
namespace Sm
open Go
attribute [local irreducible] csem rsem dsem seqK blockK normK finK DK RK JK BR G3 resK Spec Tok Fr
theorem lastIx_spec (L : Linked code) (l : List UInt8) (hl : l.length ≤ 1048576) : Pure L 197 [S l, S [47]] (I (lix l 47)) := by
 intro H K hk
 refine go_spec L code197 rfl ?_
 repeat (refine gk trivial ?_)
 (apply r_call; (focus rfl))
 refine lixS_spec L l 47 hl H _ ?_
 repeat (refine gk trivial ?_)
 exact resK_some hk
def parL (l : List UInt8) : List UInt8 := l.take (max (lix l 47) 0).toNat
theorem cut_spec (L : Linked code) (l : List UInt8) (hl : l.length ≤ 1048576) : Pure L 183 [S l] (.tu [S (parL l), S (l.drop (lix l 47 + 1).toNat)]) := by
 intro H K hk
 have hb := lix_bd l 47
 refine go_spec L code183 rfl ?_
 repeat (refine gk trivial ?_)
 (apply r_call; (focus rfl))
 refine lastIx_spec L l hl H _ ?_
 repeat (refine gk trivial ?_)
 refine resK_some ?_
 have e1 : (l.drop 0).take ((max (lix l 47) 0).toNat - 0) = parL l := by simp [parL]
 have e2 : (l.drop (lix l 47 + 1).toNat).take (l.length - (lix l 47 + 1).toNat) = l.drop (lix l 47 + 1).toNat := by
   rw [List.take_of_length_le]; simp
 simp only [Int.toNat_zero, Int.toNat_natCast, e1, e2]
 exact hk
theorem parent_spec (L : Linked code) (l : List UInt8) (hl : l.length ≤ 1048576) : Pure L 164 [S l] (S (parL l)) := by
 intro H K hk
 refine go_spec L code164 rfl ?_
 repeat (refine gk trivial ?_)
 (apply r_call; (focus rfl))
 refine cut_spec L l hl H _ ?_
 repeat (refine gk trivial ?_)
 exact resK_some hk
def hpB (s p : List UInt8) : Bool := decide (p.length ≤ s.length) && (s.take p.length == p)
theorem hp1_spec (L : Linked code) (s p : List UInt8) : Pure L 212 [S s, S p] (B (hpB s p)) := by
 intro H K hk
 refine go_spec L code212 rfl ?_
 repeat (refine gk trivial ?_)
 (refine gt trivial ?_ ?_ <;> intro h)
 · have h' : p.length ≤ s.length := by simpa using h
   repeat (refine gk trivial ?_)
   refine resK_some ?_
   simpa [hpB, h', tupled] using hk
 · have h' : ¬ p.length ≤ s.length := by simpa using h
   repeat (refine gk trivial ?_)
   refine resK_some ?_
   simpa [hpB, h', tupled] using hk
theorem hp_spec (L : Linked code) (s p : List UInt8) : Pure L 203 [S s, S p] (B (hpB s p)) := by
 intro H K hk
 refine go_spec L code203 rfl ?_
 repeat (refine gk trivial ?_)
 (apply r_call; (focus rfl))
 refine hp1_spec L s p H _ ?_
 repeat (refine gk trivial ?_)
 exact resK_some hk
def pre : List UInt8 := [46, 115, 117, 109, 112, 116, 101, 114]
theorem res_spec (L : Linked code) (s : List UInt8) : Pure L 193 [S s] (B (hpB s pre)) := by
 intro H K hk
 refine go_spec L code193 rfl ?_
 repeat (refine gk trivial ?_)
 (apply r_call; (focus rfl))
 refine hp_spec L s pre H _ ?_
 repeat (refine gk trivial ?_)
 exact resK_some hk
def okc (b : UInt8) : Bool := !((b == 47) || decide (b.toNat < 33) || decide (126 < b.toNat))
def nameB (l : List UInt8) : Bool := !(decide (l.length < 1) || decide (32 < l.length) || (l == [46]) || (l == [46, 46])) && l.all okc
theorem okc47 (b : UInt8) : (((b.toNat : Nat) : Int) == 47) = (b == 47) := byte_eq (a := b) (b := 47)
end Sm
namespace Sm
open Go
def splA : List UInt8 → List UInt8 × List (List UInt8)
 | [] => ([], [])
 | b :: l => if b == 47 then ([], (splA l).1 :: (splA l).2) else (b :: (splA l).1, (splA l).2)
def segs (l : List UInt8) : List (List UInt8) := (splA l).1 :: (splA l).2
def spl (l : List UInt8) : List (List UInt8) := if l = [] then [] else segs l
theorem segs_no : ∀ {l : List UInt8}, (∀ b ∈ l, b ≠ 47) → segs l = [l]
 | [], _ => rfl
 | b :: l, h => by
   have ih := segs_no (l := l) fun x hx => h x (by simp [hx])
   have hb : (b == 47) = false := by simpa using h b (by simp)
   simp only [segs, List.cons.injEq] at ih
   simp only [segs, splA, hb, Bool.false_eq_true, if_false, ih.1, ih.2]
theorem segs_cut : ∀ {a r : List UInt8}, (∀ b ∈ a, b ≠ 47) → segs (a ++ 47 :: r) = a :: segs r
 | [], r, _ => by simp [segs, splA]
 | b :: a, r, h => by
   have ih := segs_cut (a := a) (r := r) fun x hx => h x (by simp [hx])
   have hb : (b == 47) = false := by simpa using h b (by simp)
   simp only [segs, List.cons.injEq] at ih
   simp only [segs, List.cons_append, splA, hb, Bool.false_eq_true, if_false, ih.1]
   rw [ih.2]
theorem segs_len (l : List UInt8) : (segs l).length = l.count 47 + 1 := by
 induction l with
 | nil => rfl
 | cons b l ih =>
   simp only [segs, List.length_cons] at ih
   rw [List.count_cons]
   cases hb : (b == 47)
   · simp only [segs, splA, hb, Bool.false_eq_true, if_false, List.length_cons]; omega
   · simp only [segs, splA, hb, if_true, List.length_cons]; omega
theorem segs_drop {l : List UInt8} {f i : Nat} (hf : f ≤ i) (hi : i < l.length) (h : l[i] = 47) (hb : ∀ k (hk : k < l.length), f ≤ k → k < i → l[k] ≠ 47) : segs (l.drop f) = (l.drop f).take (i - f) :: segs (l.drop (i + 1)) := by
 have e : l.drop f = (l.drop f).take (i - f) ++ 47 :: l.drop (i + 1) := by
   have h1 := (List.take_append_drop (i - f) (l.drop f)).symm
   rw [List.drop_drop, show f + (i - f) = i by omega, List.drop_eq_getElem_cons hi, h] at h1
   exact h1
 have h2 := segs_cut (a := (l.drop f).take (i - f)) (r := l.drop (i + 1)) (fun b hbm => by
   obtain ⟨k, hk, rfl⟩ := List.getElem_of_mem hbm
   simp only [List.length_take, List.length_drop] at hk
   simp only [List.getElem_take, List.getElem_drop]
   exact hb (f + k) (by omega) (by omega) (by omega))
 rw [← e] at h2
 exact h2
attribute [local irreducible] csem rsem dsem seqK blockK normK finK DK RK JK BR G3 resK Spec Tok Fr
theorem pname_spec (L : Linked code) (l : List UInt8) (hl : l.length ≤ 1048576) : Pure L 211 [S l] (B (nameB l)) := by
 intro H K hk
 refine go_spec L code211 rfl ?_
 repeat (refine gk trivial ?_)
 cases c1 : (l == [])
 case true =>
   have : decide (l.length < 1) = true := by simp only [beq_iff_eq] at c1; subst c1; rfl
   rw [show nameB l = false by simp only [nameB, this, Bool.true_or, Bool.or_true, Bool.not_true, Bool.false_and]] at hk
   repeat (refine gk trivial ?_)
   exact resK_some hk
 repeat (refine gk trivial ?_)
 cases c2 : decide ((32 : Int) < (l.length : Int))
 case true =>
   have : decide (32 < l.length) = true := by simp only [decide_eq_true_eq] at c2 ⊢; omega
   rw [show nameB l = false by simp only [nameB, this, Bool.true_or, Bool.or_true, Bool.not_true, Bool.false_and]] at hk
   repeat (refine gk trivial ?_)
   exact resK_some hk
 repeat (refine gk trivial ?_)
 cases c3 : (l == [46])
 case true =>
   rw [show nameB l = false by simp only [nameB, c3, Bool.true_or, Bool.or_true, Bool.not_true, Bool.false_and]] at hk
   repeat (refine gk trivial ?_)
   exact resK_some hk
 repeat (refine gk trivial ?_)
 cases c4 : (l == [46, 46])
 case true =>
   rw [show nameB l = false by simp only [nameB, c4, Bool.true_or, Bool.or_true, Bool.not_true, Bool.false_and]] at hk
   repeat (refine gk trivial ?_)
   exact resK_some hk
 have e : nameB l = l.all okc := by
   have h1 : decide (l.length < 1) = false := by
     simp only [decide_eq_false_iff_not, beq_eq_false_iff_ne, ne_eq] at c1 ⊢
     cases l with
     | nil => exact absurd rfl c1
     | cons _ _ => simp
   have h2 : decide (32 < l.length) = false := by simp only [decide_eq_false_iff_not] at c2 ⊢; omega
   simp only [nameB, h1, h2, c3, c4]; rfl
 rw [e] at hk
 repeat (refine gk trivial ?_)
 refine c_loop (Spec_SMono L) (fun (k : Nat) => [(0, .h (S l)), (21, .h (I l.length)), (22, .h (I k))]) (fun _ => []) (fun k H' => H' = H ∧ k ≤ l.length ∧ ∀ m (hm : m < l.length), m < k → okc l[m] = true) (fun k => l.length - k) 0 ?_ ⟨rfl, by omega, fun m hm h => by omega⟩ ?_
 · (refine leM ?_ ?_ ?_ <;> (repeat refine leS trivial ?_) <;> exact leE)
 rintro k H' ⟨rfl, hkl, hb⟩
 repeat (refine gk trivial ?_)
 (refine ct trivial ?_ ?_ <;> intro h)
 · have hk1 : k < l.length := by simpa using h
   have bad : okc l[k] = false → l.all okc = false := fun h => by
     rw [List.all_eq_false]; exact ⟨_, List.getElem_mem hk1, by simp [h]⟩
   repeat (refine gk trivial ?_)
   rw [okc47]
   cases d1 : (l[k] == 47)
   case true =>
     rw [bad (by simp [okc, d1])] at hk
     repeat (refine gk trivial ?_)
     exact resK_some hk
   repeat (refine gk trivial ?_)
   cases d2 : decide (((l[k].toNat : Nat) : Int) ≤ 32)
   case true =>
     have : decide (l[k].toNat < 33) = true := by simp only [decide_eq_true_eq] at d2 ⊢; omega
     rw [bad (by simp [okc, this])] at hk
     repeat (refine gk trivial ?_)
     exact resK_some hk
   repeat (refine gk trivial ?_)
   cases d3 : decide (((l[k].toNat : Nat) : Int) > 126)
   case true =>
     have : decide (126 < l[k].toNat) = true := by simp only [decide_eq_true_eq] at d3 ⊢; omega
     rw [bad (by simp [okc, this])] at hk
     repeat (refine gk trivial ?_)
     exact resK_some hk
   have good : okc l[k] = true := by
     have h2 : decide (l[k].toNat < 33) = false := by simp only [decide_eq_false_iff_not] at d2 ⊢; omega
     have h3 : decide (126 < l[k].toNat) = false := by simp only [decide_eq_false_iff_not] at d3 ⊢; omega
     simp [okc, d1, h2, h3]
   repeat (refine gk trivial ?_)
   refine k_n (k + 1) (by omega) ⟨rfl, by omega, fun m hm h3 => ?_⟩ ?_
   · rcases Nat.lt_or_ge m k with h4 | h4
     · exact hb m hm h4
     · have : m = k := by omega
       subst this; exact good
   · (refine leM ?_ ?_ ?_ <;> (repeat refine leS trivial ?_) <;> exact leE)
 · have hk0 : k = l.length := by have : ¬ k < l.length := by simpa using h
                                 omega
   subst hk0
   rw [show l.all okc = true by rw [List.all_eq_true]; intro x hx; obtain ⟨m, hm, rfl⟩ := List.getElem_of_mem hx; exact hb m hm hm] at hk
   repeat (refine gk trivial ?_)
   exact resK_some hk
end Sm
namespace Sm
open Go
theorem Tok.ful2 (H : Heap) (n sz : Nat) : Tok H .full n sz := trivial
theorem r_mks {S' : SpecT} {sl : List (Nat × EV)} {bx : List (Nat × List HV)} {H : Heap} {K : Env → Heap → Prop} {os : List SOper} {d : Nat} {sz bytes : Nat} {zero : List HV} {x y : Opd} {l c : Int}
   (hx : (M sl bx).hvs [x, y] = some [I l, I c]) (h0 : 0 ≤ l ∧ l ≤ c ∧ c * bytes ≤ 140737488355328) (hz : zero.length = sz)
   (h : ∀ b X, H b = none → X b = some (.obj (List.replicate c.toNat zero).flatten) → Fr [] H X → rsem S' os (M ((d, .h (.v (.slice (some ⟨b, 0, none⟩) l.toNat c.toNat))) :: sl) bx) X K) :
   rsem S' (⟨some d, .hop (.mks sz bytes zero) [x, y], none⟩ :: os) (M sl bx) H K := by
 rw [rsem_cons]
 simp only [SOp.step, hx, hopK]
 refine ⟨h0.1, h0.2.1, h0.2.2, hz, fun b hb => ?_⟩
 rw [rK_app, M_put]
 exact h b _ hb (Heap.upd_same _ _ _) (Fr.new hb)
theorem r_idxO {S' : SpecT} {sl : List (Nat × EV)} {bx : List (Nat × List HV)} {H : Heap} {K : Env → Heap → Prop} {os : List SOper} {d : Nat} {sz : Nat} {x i : Opd} {b off n c : Nat} {k : Int}
   (hx : (M sl bx).hv x = some (.v (.slice (some ⟨b, off, none⟩) n c))) (hi : (M sl bx).hv i = some (I k)) (hb : 0 ≤ k ∧ k < n) (h : rsem S' os (M ((d, .h (.v (.pointer (some ⟨b, off + k.toNat * sz, none⟩)))) :: sl) bx) H K) :
   rsem S' (⟨some d, .idx sz x i, none⟩ :: os) (M sl bx) H K :=
 r_calm rfl (by simp only [SOp.ev, hx, hi]; rw [if_pos hb]) h
theorem r_slcO {S' : SpecT} {sl : List (Nat × EV)} {bx : List (Nat × List HV)} {H : Heap} {K : Env → Heap → Prop} {os : List SOper} {d : Nat} {sz : Nat} {x : Opd} {lo hi mx : Option Opd} {b off n c : Nat} {l h m : Int}
   (hx : (M sl bx).hv x = some (.v (.slice (some ⟨b, off, none⟩) n c))) (h1 : bnd (M sl bx) 0 lo = some l) (h2 : bnd (M sl bx) n hi = some h) (h3 : bnd (M sl bx) c mx = some m) (hb : 0 ≤ l ∧ l ≤ h ∧ h ≤ m ∧ m ≤ c)
   (hk : rsem S' os (M ((d, .h (.v (.slice (some ⟨b, if m = l then off else off + l.toNat * sz, none⟩) (h.toNat - l.toNat) (m.toNat - l.toNat)))) :: sl) bx) H K) :
   rsem S' (⟨some d, .slc sz x lo hi mx, none⟩ :: os) (M sl bx) H K :=
 r_calm rfl (by simp only [SOp.ev, hx, h1, h2, h3]; rw [if_pos hb]) hk
theorem M_cons_get {sl : List (Nat × EV)} {bx : List (Nat × List HV)} {t s : Nat} {x : EV} : (M ((t, x) :: sl) bx).get s = if t = s then some x else (M sl bx).get s := by
 simp only [M, Env.get, lq_cons, upd]
theorem vs_sl {sl : List (Nat × EV)} {bx : List (Nat × List HV)} {H : Heap} {t b n c sz : Nat} {cs es : List HV} (hx : (M sl bx).get t = some (.h (.v (.slice (some ⟨b, 0, none⟩) n c)))) (hb : H b = some (.obj cs))
   (hcs : cs.take (n * sz) = es.flatMap HV.cells) (hle : n * sz ≤ cs.length) (hn : es.length = n) (hc : n ≤ c) (hm : c ≤ maxLen) (hel : es.all HV.el = true) (hsz : ∀ e ∈ es, e.ncells = sz) :
   VS (M sl bx) H (M ((t, .h (.sl .no sz es)) :: sl) bx) (H.upd b none) := by
 refine VS.freeze hb (fun s x hs => ?_) (fun k c1 hk => ⟨c1, hk, .inl rfl⟩) (fun s k o hs hk => hk) (fun a r' ha => ?_)
 · rw [M_cons_get] at hs
   by_cases hst : t = s
   · subst hst
     rw [if_pos rfl] at hs
     simp only [Option.some.injEq] at hs; subst hs
     exact ⟨_, hx, .inr (FW.slice hcs hle hn hc hm hel hsz)⟩
   · rw [if_neg hst] at hs
     exact ⟨x, hs, .inl rfl⟩
 · simp only [Heap.upd] at ha
   split at ha
   · cases ha
   · rename_i h; exact ⟨h, r', ha, .inl rfl⟩
theorem ixb_of {l : List UInt8} : (∀ b ∈ l, b ≠ 47) ∧ Lib.indexByte l 47 = -1 ∨ ∃ i, ∃ h : i < l.length, Lib.indexByte l 47 = i ∧ l[i] = 47 ∧ ∀ k (hk : k < l.length), k < i → l[k] ≠ 47 := by
 induction l with
 | nil => left; exact ⟨by simp, rfl⟩
 | cons b l ih =>
   cases hb : (b == 47)
   · rcases ih with ⟨h1, h2⟩ | ⟨i, hi, h1, h2, h3⟩
     · left
       refine ⟨fun x hx => ?_, by simp [Lib.indexByte, hb, h2]⟩
       rcases List.mem_cons.mp hx with rfl | hx
       · simpa using hb
       · exact h1 x hx
     · right
       refine ⟨i + 1, by simpa using hi, ?_, h2, fun k hk hki => ?_⟩
       · have : ¬ ((i : Int) == -1) = true := by simp
         simp [Lib.indexByte, hb, h1, this]
       · cases k with
         | zero => simpa using hb
         | succ k => exact h3 k (Nat.lt_of_succ_lt_succ hk) (by omega)
   · right
     exact ⟨0, by simp, by simp [Lib.indexByte, hb], by simpa using hb, fun k hk h => by omega⟩
attribute [local irreducible] csem rsem dsem seqK blockK normK finK DK RK JK BR G3 resK Spec Tok Fr
theorem count_spec (L : Linked code) (l : List UInt8) : Pure L 214 [S l, S [47]] (I (l.count 47 : Nat)) := by
 intro H K hk
 refine go_spec L code214 rfl ?_
 repeat (refine gk trivial ?_)
 exact resK_some hk
theorem index1_spec (L : Linked code) (l : List UInt8) : Pure L 221 [S l, U 47] (I (Lib.indexByte l 47)) := by
 intro H K hk
 refine go_spec L code221 rfl ?_
 repeat (refine gk trivial ?_)
 exact resK_some hk
theorem index2_spec (L : Linked code) (l : List UInt8) : Pure L 219 [S l, S [47]] (I (Lib.indexByte l 47)) := by
 intro H K hk
 refine go_spec L code219 rfl ?_
 repeat (refine gk trivial ?_)
 cases c : (([47] : List UInt8) == l)
 · repeat (refine gk trivial ?_)
   (apply r_call; (focus rfl))
   refine index1_spec L l H _ ?_
   repeat (refine gk trivial ?_)
   exact resK_some hk
 · have : l = [47] := by simpa using (beq_iff_eq.mp c).symm
   subst this
   repeat (refine gk trivial ?_)
   exact resK_some hk
theorem index_spec (L : Linked code) (l : List UInt8) : Pure L 218 [S l, S [47]] (I (Lib.indexByte l 47)) := by
 intro H K hk
 refine go_spec L code218 rfl ?_
 repeat (refine gk trivial ?_)
 (apply r_call; (focus rfl))
 refine index2_spec L l H _ ?_
 repeat (refine gk trivial ?_)
 exact resK_some hk
end Sm
namespace Sm
open Go
theorem r_storeO {S' : SpecT} {sl : List (Nat × EV)} {bx : List (Nat × List HV)} {H : Heap} {K : Env → Heap → Prop} {os : List SOper} {n b off : Nat} {a x : Opd} {v : HV} {cs : List HV} (hx : (M sl bx).hv x = some v) (h1 : v.ncells = n) (h2 : v.el = true) (ha : (M sl bx).opd a = some (.h (.v (.pointer (some ⟨b, off, none⟩))))) (hk : H b = some (.obj cs)) (hl : off + n ≤ cs.length)
   (h : ∀ X, X b = some (.obj (setL cs off v.cells)) → Fr [b] H X → rsem S' os (M sl bx) X K) : rsem S' (⟨none, .store n a x, none⟩ :: os) (M sl bx) H K :=
 r_storeH hx h1 h2 ha hk (Nat.ble_eq_true_of_le hl) rfl (h _ (Heap.upd_same _ _ _) (Fr.set (by simp)))
theorem r_slcO0 {S' : SpecT} {sl : List (Nat × EV)} {bx : List (Nat × List HV)} {H : Heap} {K : Env → Heap → Prop} {os : List SOper} {d : Nat} {sz : Nat} {x : Opd} {hi : Option Opd} {b off n c : Nat} {h : Int}
   (hx : (M sl bx).hv x = some (.v (.slice (some ⟨b, off, none⟩) n c))) (h2 : bnd (M sl bx) n hi = some h) (hb : 0 ≤ h ∧ h ≤ c)
   (hk : rsem S' os (M ((d, .h (.v (.slice (some ⟨b, off, none⟩) h.toNat c))) :: sl) bx) H K) :
   rsem S' (⟨some d, .slc sz x none hi none, none⟩ :: os) (M sl bx) H K := by
 refine r_slcO (l := 0) (h := h) (m := (c : Int)) hx rfl h2 rfl ⟨by omega, hb.1, hb.2, by omega⟩ ?_
 simpa using hk
theorem setL_one {A B : List HV} {x y : HV} {i : Nat} (hi : A.length = i) : setL (A ++ x :: B) i [y] = A ++ y :: B := by
 subst hi; simp [setL]
theorem Fr.own {H0 H H' : Heap} {b : Nat} (h : Fr [] H0 H) (hb : H0 b = none) (k : Fr [b] H H') : Fr [] H0 H' := fun a r _ hr => k a r (fun hm => by simp at hm; subst hm; rw [hb] at hr; cases hr) (h a r (by simp) hr)
theorem Fr.give {H0 H : Heap} {b : Nat} (h : Fr [] H0 H) (hb : H0 b = none) : Fr [] H0 (H.upd b none) := fun a r _ hr => by
 have : a ≠ b := by rintro rfl; rw [hb] at hr; cases hr
 simp only [Heap.upd, if_neg this]; exact h a r (by simp) hr
theorem one_S : ∀ l : List (List UInt8), (l.map S).flatMap HV.cells = l.map S
 | [] => rfl
 | a :: l => by
   have := one_S l
   simp only [List.map_cons, List.flatMap_cons, this]; rfl
attribute [local irreducible] csem rsem dsem seqK blockK normK finK DK RK JK BR G3 resK Spec Tok Fr
theorem gsplit_spec (L : Linked code) (l : List UInt8) (hl : l.length ≤ 1048576) (H : Heap) (K) (hk : ∀ H', Fr [] H H' → K (.sl .no 1 ((segs l).map S)) H') : Spec L.P L.ν 204 [S l, S [47], I 0, I (-1)] H K := by
 have hcl : l.count 47 ≤ l.length := List.count_le_length
 have hsl := segs_len l
 generalize hc : l.count 47 = c at hcl hsl
 refine go_spec L code204 rfl ?_
 repeat (refine gk trivial ?_)
 rw [show (([47] : List UInt8) == []) = false from rfl]
 repeat (refine gk trivial ?_)
 (apply r_call; (focus rfl))
 refine count_spec L l H _ ?_
 rw [hc]
 have e1 : min ((c : Int) + 1) ((l.length : Int) + 1) = ((c + 1 : Nat) : Int) := by omega
 repeat (refine gk trivial ?_)
 rw [e1]
 apply r_mks; (focus rfl); (focus omega); (focus rfl)
 intro b X hb hX hfr
 have e2 : (List.replicate ((c + 1 : Nat) : Int).toNat [HV.v (.string ⟨#[]⟩)]).flatten = List.replicate (c + 1) (S []) := by
   rw [Int.toNat_natCast]
   generalize c + 1 = m
   induction m with
   | zero => rfl
   | succ m ih => rw [List.replicate_succ, List.flatten_cons, ih, List.replicate_succ]; rfl
 rw [e2] at hX
 rw [Int.toNat_natCast]
 repeat (refine gk trivial ?_)
 refine c_loop (Spec_SMono L) (fun (q : Nat × List UInt8 × List (List UInt8)) => [(0, .h (S q.2.1)), (1, .h (S [47])), (2, .h (I 0)), (3, .h (I c)), (9, .h (.v (.slice (some ⟨b, 0, none⟩) (c + 1) (c + 1)))), (10, .h (I q.1))]) (fun _ => [])
   (fun q H' => H' b = some (.obj (q.2.2.map S ++ List.replicate (c + 1 - q.1) (S []))) ∧ Fr [] H H' ∧ q.2.2.length = q.1 ∧ q.1 ≤ c ∧ segs l = q.2.2 ++ segs q.2.1 ∧ q.2.1.count 47 = c - q.1 ∧ q.2.1.length ≤ l.length)
   (fun q => c - q.1) (0, l, []) ?_ ⟨by simpa using hX, hfr, rfl, by simp, rfl, by simpa using hc, by simp⟩ ?_
 · have e : (((c + 1 : Nat) : Int) - 1) = (c : Int) := by omega
   (refine leM ?_ ?_ ?_ <;> (repeat refine leS e ?_) <;> exact leE)
 rintro ⟨i, rest, done⟩ H' ⟨hX2, hfr2, hdl, hic, hseg, hcnt, hrl⟩
 simp only at hX2 hfr2 hdl hic hseg hcnt hrl ⊢
 repeat (refine gk trivial ?_)
 (refine ct trivial ?_ ?_ <;> intro h)
 · have hi' : i < c := by simpa using h
   repeat (refine gk trivial ?_)
   (apply r_call; (focus rfl))
   refine index_spec L rest H' _ ?_
   rcases ixb_of (l := rest) with ⟨h1, _⟩ | ⟨m, hm, h1, h2, h3⟩
   · have := List.count_eq_zero.mpr (fun hmem => h1 47 hmem rfl)
     omega
   rw [h1]
   have e3 : decide ((m : Int) < 0) = false := by simp
   repeat (refine gk e3 ?_)
   apply r_idxO; (focus rfl); (focus rfl); (focus omega)
   repeat (refine gk trivial ?_)
   have hrep : List.replicate (c + 1 - i) (S []) = S [] :: List.replicate (c - i) (S []) := by rw [show c + 1 - i = (c - i) + 1 by omega, List.replicate_succ]
   apply r_storeO; (focus rfl); (focus rfl); (focus rfl); (focus rfl); (focus exact hX2); (focus (simp [hdl]; omega))
   intro Y hY hfY
   have e4 : ((i : Int).toNat * 1) = i := by omega
   rw [hrep, Nat.zero_add, e4] at hY
   simp only [HV.cells, Int.toNat_natCast, List.drop_zero, Nat.sub_zero, Int.add_zero] at hY
   rw [setL_one (by simpa using hdl)] at hY
   repeat (refine gk trivial ?_)
   have e5 : (rest.drop ((m : Int) + ((1 : Nat) : Int)).toNat).take ((rest.length : Int).toNat - ((m : Int) + ((1 : Nat) : Int)).toNat) = rest.drop (m + 1) := by
     rw [show ((m : Int) + ((1 : Nat) : Int)).toNat = m + 1 by omega, List.take_of_length_le (by simp)]
   have e6 := segs_drop (l := rest) (f := 0) (Nat.zero_le m) hm h2 (fun k hk _ hki => h3 k hk hki)
   rw [List.drop_zero, Nat.sub_zero] at e6
   have e7 : (rest.drop (m + 1)).count 47 = c - (i + 1) := by
     have h4 := List.take_append_drop m rest
     have h5 : (rest.take m).count 47 = 0 := List.count_eq_zero.mpr fun hmem => by
       obtain ⟨k, hk, hk2⟩ := List.getElem_of_mem hmem
       simp only [List.length_take] at hk
       rw [List.getElem_take] at hk2
       exact h3 k (by omega) (by omega) hk2
     rw [← h4, List.count_append, h5, List.drop_eq_getElem_cons hm, h2, List.count_cons_self] at hcnt
     omega
   refine k_n (i + 1, rest.drop (m + 1), done ++ [rest.take m]) (by simp only; omega) ⟨?_, hfr2.own hb hfY, by simp [hdl], by simp only; omega, by rw [hseg, e6]; simp, e7, by simp; omega⟩ ?_
   · rw [hY]; simp [show c + 1 - (i + 1) = c - i by omega]
   · (refine leM ?_ ?_ ?_ <;> (repeat refine leS e5 ?_) <;> exact leE)
 · have hi' : i = c := by have : ¬ i < c := by simpa using h
                          omega
   subst hi'
   have hs1 : segs rest = [rest] := segs_no fun b hb => by
     rintro rfl
     have := List.count_pos_iff.mpr hb
     omega
   rw [hs1] at hseg
   repeat (refine gk trivial ?_)
   apply r_idxO; (focus rfl); (focus rfl); (focus omega)
   repeat (refine gk trivial ?_)
   apply r_storeO; (focus rfl); (focus rfl); (focus rfl); (focus rfl); (focus exact hX2); (focus (simp [hdl]))
   intro Y hY hfY
   have e4 : ((i : Int).toNat * 1) = i := by omega
   rw [show i + 1 - i = 0 + 1 by omega, List.replicate_succ, Nat.zero_add, e4, show HV.cells (S rest) = [S rest] from rfl, setL_one (by simpa using hdl), List.replicate_zero] at hY
   repeat (refine gk trivial ?_)
   apply r_slcO0; (focus rfl); (focus rfl); (focus omega)
   refine r_calm rfl rfl ?_
   refine r_nil ?_
   refine n_n ?_
   refine s_v (vs_sl (t := 8) (sz := 1) (es := (segs l).map S) rfl hY ?_ ?_ ?_ ?_ ?_ ?_ ?_) ?_
   · rw [one_S, hseg, List.take_of_length_le (by simp; omega)]; simp
   · simp [hdl]
   · rw [List.length_map, hsl]; omega
   · omega
   · simp only [maxLen]; omega
   · rw [List.all_eq_true]; intro q hq; obtain ⟨x, _, rfl⟩ := List.mem_map.mp hq; rfl
   · intro q hq; obtain ⟨x, _, rfl⟩ := List.mem_map.mp hq; rfl
   repeat (refine gk trivial ?_)
   exact resK_some (hk _ ((hfr2.own hb hfY).give hb))
theorem ssplit_spec (L : Linked code) (l : List UInt8) (hl : l.length ≤ 1048576) (H : Heap) (K) (hk : ∀ H', Fr [] H H' → K (.sl .no 1 ((segs l).map S)) H') : Spec L.P L.ν 195 [S l, S [47]] H K := by
 refine go_spec L code195 rfl ?_
 repeat (refine gk trivial ?_)
 (apply r_call; (focus rfl))
 refine gsplit_spec L l hl H _ fun H' hf => ?_
 repeat (refine gk trivial ?_)
 exact resK_some (hk H' hf)
theorem psplit_spec (L : Linked code) (l : List UInt8) (hl : l.length ≤ 1048576) (H : Heap) (K) (hk : ∀ H', Fr [] H H' → K (.sl .no 1 ((spl l).map S)) H') : Spec L.P L.ν 181 [S l] H K := by
 refine go_spec L code181 rfl ?_
 repeat (refine gk trivial ?_)
 cases c0 : (l == [])
 case true =>
   have : l = [] := by simpa using c0
   subst this
   repeat (refine gk trivial ?_)
   exact resK_weak (Weak.nil' 1) (hk H (Fr.refl _ _))
 have hne : l ≠ [] := by simpa using c0
 rw [spl, if_neg hne] at hk
 repeat (refine gk trivial ?_)
 (apply r_call; (focus rfl))
 refine ssplit_spec L l hl H _ fun H' hf => ?_
 repeat (refine gk trivial ?_)
 exact resK_some (hk H' hf)
end Sm
namespace Sm
open Go
theorem bl_irr : ∀ a : List UInt8, Op.bytesLess a a = false
 | [] => rfl
 | b :: a => by simp [Op.bytesLess, bl_irr a]
def cmpS (a b : List UInt8) : Int := if Op.bytesLess a b then -1 else if a == b then 0 else 1
theorem cmpS_eq {a b : List UInt8} : cmpS a b = 0 ↔ a = b := by
 unfold cmpS
 constructor
 · intro h
   split at h
   · cases h
   · split at h
     · rename_i h2; simpa using h2
     · cases h
 · rintro rfl; simp [bl_irr]
def cmpL : List (List UInt8) → List (List UInt8) → Int
 | [], [] => 0
 | [], _ :: _ => -1
 | _ :: _, [] => 1
 | a :: as, b :: bs => if cmpS a b = 0 then cmpL as bs else cmpS a b
def lessP (a b : List UInt8) : Bool := decide (cmpL (spl a) (spl b) < 0)
theorem cmpL_step {x y : List (List UInt8)} {i : Nat} (hx : i < x.length) (hy : i < y.length) : cmpL (x.drop i) (y.drop i) = if cmpS x[i] y[i] = 0 then cmpL (x.drop (i + 1)) (y.drop (i + 1)) else cmpS x[i] y[i] := by
 rw [List.drop_eq_getElem_cons hx, List.drop_eq_getElem_cons hy, cmpL]
theorem cmpL_x {x y : List (List UInt8)} {i : Nat} (hx : i < x.length) (hy : y.length ≤ i) : cmpL (x.drop i) (y.drop i) = 1 := by
 rw [List.drop_eq_getElem_cons hx, List.drop_of_length_le hy, cmpL]
theorem cmpL_y {x y : List (List UInt8)} {i : Nat} (hx : x.length ≤ i) (hy : i < y.length) : cmpL (x.drop i) (y.drop i) = -1 := by
 rw [List.drop_eq_getElem_cons hy, List.drop_of_length_le hx, cmpL]
theorem cmpL_e {x y : List (List UInt8)} {i : Nat} (hx : x.length ≤ i) (hy : y.length ≤ i) : cmpL (x.drop i) (y.drop i) = 0 := by
 rw [List.drop_of_length_le hx, List.drop_of_length_le hy, cmpL]
theorem spl_len (l : List UInt8) : (spl l).length ≤ l.length + 1 := by
 unfold spl
 split
 · simp
 · rw [segs_len]; have : l.count 47 ≤ l.length := List.count_le_length
   omega
attribute [local irreducible] csem rsem dsem seqK blockK normK finK DK RK JK BR G3 resK Spec Tok Fr
theorem nan_spec (L : Linked code) (a : List UInt8) : Pure L 205 [S a] (B false) := by
 intro H K hk
 refine go_spec L code205 rfl ?_
 repeat (refine gk trivial ?_)
 rw [show (!(a == a)) = false by simp]
 repeat (refine gk trivial ?_)
 exact resK_some hk
theorem cmp_spec (L : Linked code) (a b : List UInt8) : Pure L 196 [S a, S b] (I (cmpS a b)) := by
 intro H K hk
 refine go_spec L code196 rfl ?_
 repeat (refine gk trivial ?_)
 (apply r_call; (focus rfl))
 refine nan_spec L a H _ ?_
 repeat (refine gk trivial ?_)
 (apply r_call; (focus rfl))
 refine nan_spec L b H _ ?_
 unfold cmpS at hk
 repeat (refine gk trivial ?_)
 cases c1 : Op.bytesLess a b
 case true =>
   rw [c1] at hk
   repeat (refine gk trivial ?_)
   exact resK_some hk
 repeat (refine gk trivial ?_)
 rw [c1]
 simp only [c1, Bool.false_eq_true, if_false, Bool.false_or] at hk ⊢
 cases c2 : (a == b)
 · rw [c2] at hk
   simp only [Bool.false_eq_true, if_false, Bool.not_false] at hk ⊢
   repeat (refine gk trivial ?_)
   exact resK_some hk
 · rw [c2] at hk
   simp only [if_true, Bool.not_true] at hk ⊢
   repeat (refine gk trivial ?_)
   exact resK_some hk
theorem comp_spec (L : Linked code) (t1 t2 : Tk) (x y : List (List UInt8)) (hx : x.length ≤ 1048577) (hy : y.length ≤ 1048577) : Pure L 182 [.sl t1 1 (x.map S), .sl t2 1 (y.map S)] (I (cmpL x y)) := by
 intro H K hk
 refine go_spec L code182 rfl ?_
 repeat (refine gk trivial ?_)
 refine c_loop (Spec_SMono L) (fun (i : Nat) => [(0, .h (.sl t1 1 (x.map S))), (1, .h (.sl t2 1 (y.map S))), (9, .h (.sl t1 1 (x.map S))), (10, .h (I x.length)), (11, .h (I i))]) (fun _ => []) (fun i H' => H' = H ∧ i ≤ x.length ∧ cmpL x y = cmpL (x.drop i) (y.drop i) ∧ i ≤ y.length) (fun i => x.length - i) 0 ?_ ⟨rfl, by omega, rfl, by omega⟩ ?_
 · (refine leM ?_ ?_ ?_ <;> (repeat refine leS trivial ?_) <;> exact leE)
 rintro i H' ⟨rfl, hix, he, hiy⟩
 repeat (refine gk trivial ?_)
 (refine ct trivial ?_ ?_ <;> intro h)
 · have hi : i < x.length := by simpa using h
   repeat (refine gk trivial ?_)
   (refine ct trivial ?_ ?_ <;> intro h2)
   · have h3 : y.length ≤ i := by simpa using h2
     rw [he, cmpL_x hi h3] at hk
     repeat (refine gk trivial ?_)
     exact resK_some hk
   · have h3 : i < y.length := by simpa using h2
     rw [cmpL_step hi h3] at he
     repeat (refine gk trivial ?_)
     (apply r_call; (focus rfl))
     refine cmp_spec L x[i] y[i] _ _ ?_
     repeat (refine gk trivial ?_)
     cases c1 : (cmpS x[i] y[i] == 0)
     · have c2 : (cmpS x[i] y[i] != 0) = true := by simpa [bne] using c1
       rw [if_neg (by simpa using c1)] at he
       rw [he] at hk
       rw [c2]
       repeat (refine gk trivial ?_)
       exact resK_some hk
     · have c2 : (cmpS x[i] y[i] != 0) = false := by simpa [bne] using c1
       rw [if_pos (by simpa using c1)] at he
       rw [c2]
       repeat (refine gk trivial ?_)
       refine k_n (i + 1) (by omega) ⟨rfl, by omega, he, by omega⟩ ?_
       (refine leM ?_ ?_ ?_ <;> (repeat refine leS trivial ?_) <;> exact leE)
 · have hi : i = x.length := by have : ¬ i < x.length := by simpa using h
                                omega
   subst hi
   repeat (refine gk trivial ?_)
   (refine ct trivial ?_ ?_ <;> intro h2)
   · have h3 : x.length < y.length := by simpa using h2
     rw [he, cmpL_y (Nat.le_refl _) h3] at hk
     repeat (refine gk trivial ?_)
     exact resK_some hk
   · have h3 : ¬ x.length < y.length := by simpa using h2
     rw [he, cmpL_e (Nat.le_refl _) (by omega)] at hk
     repeat (refine gk trivial ?_)
     exact resK_some hk
theorem less_spec (L : Linked code) (a b : List UInt8) (ha : a.length ≤ 1048576) (hb : b.length ≤ 1048576) (H : Heap) (K) (hk : ∀ H', Fr [] H H' → K (B (lessP a b)) H') : Spec L.P L.ν 163 [S a, S b] H K := by
 refine go_spec L code163 rfl ?_
 have h1 := spl_len a
 have h2 := spl_len b
 repeat (refine gk trivial ?_)
 (apply r_call; (focus rfl))
 refine psplit_spec L a ha H _ fun H1 f1 => ?_
 repeat (refine gk trivial ?_)
 (apply r_call; (focus rfl))
 refine psplit_spec L b hb H1 _ fun H2 f2 => ?_
 repeat (refine gk trivial ?_)
 (apply r_call; (focus rfl))
 refine comp_spec L .no .no (spl a) (spl b) (by omega) (by omega) H2 _ ?_
 repeat (refine gk trivial ?_)
 exact resK_some (hk H2 (f1.trans f2))
end Sm
namespace Sm
open Go
def firstIdx {α : Type} (f : α → Bool) (l : List α) : Int := if l.any f then (l.findIdx f : Int) else -1
theorem firstIdx_some {α : Type} {f : α → Bool} {l : List α} {i : Nat} (hi : i < l.length) (hf : f l[i] = true) (hb : ∀ j (hj : j < i), f (l[j]'(by omega)) = false) : firstIdx f l = i := by
 have h1 : l.any f = true := List.any_eq_true.mpr ⟨l[i], List.getElem_mem hi, hf⟩
 rw [firstIdx, if_pos h1]
 have : l.findIdx f = i := by
   rw [List.findIdx_eq hi]
   exact ⟨hf, fun j hj => by simpa using hb j hj⟩
 rw [this]
theorem firstIdx_none {α : Type} {f : α → Bool} {l : List α} (hb : ∀ j (hj : j < l.length), f l[j] = false) : firstIdx f l = -1 := by
 have : ¬ l.any f = true := by
   rw [List.any_eq_true]
   rintro ⟨x, hx, hf⟩
   obtain ⟨j, hj, rfl⟩ := List.getElem_of_mem hx
   rw [hb j hj] at hf; cases hf
 rw [firstIdx, if_neg this]
theorem firstIdx_ge {α : Type} (f : α → Bool) (l : List α) : decide (0 ≤ firstIdx f l) = l.any f := by
 unfold firstIdx
 cases h : l.any f
 · simp
 · simp
def chkP (l : List UInt8) : Int := if 128 < l.length then 5 else if (spl l).any (fun s => !nameB s) then 6 else if spl l = [] then 6 else if 8 < (spl l).length then 5 else 0
theorem seg_len : ∀ (l : List UInt8), ∀ s ∈ segs l, s.length ≤ l.length
 | [], s, h => by simp [segs, splA] at h; subst h; simp
 | b :: l, s, h => by
   have ih := seg_len l
   simp only [segs, List.mem_cons] at ih
   cases hb : (b == 47)
   · simp only [segs, splA, hb, Bool.false_eq_true, if_false, List.mem_cons] at h
     rcases h with rfl | h
     · have := ih _ (.inl rfl); simp; omega
     · have := ih s (.inr h); simp; omega
   · simp only [segs, splA, hb, if_true, List.mem_cons] at h
     rcases h with rfl | h | h
     · simp
     · have := ih s (.inl h); simp; omega
     · have := ih s (.inr h); simp; omega
theorem spl_mem {l s : List UInt8} (h : s ∈ spl l) : s.length ≤ l.length := by
 unfold spl at h
 split at h
 · simp at h
 · exact seg_len l s h
attribute [local irreducible] csem rsem dsem seqK blockK normK finK DK RK JK BR G3 resK Spec Tok Fr
theorem idxS_spec (L : Linked code) (g : Nat) (caps : List HV) (f : List UInt8 → Bool) (tk : Tk) (l : List (List UInt8)) (hl : l.length ≤ 1048577) (H : Heap) (hf : ∀ p ∈ l, ∀ K, K (B (f p)) H → Spec L.P L.ν g (S p :: caps) H K) (K) (hk : K (I (firstIdx f l)) H) :
   Spec L.P L.ν 210 [.sl tk 1 (l.map S), .fn g caps] H K := by
 refine go_spec L code210 rfl ?_
 repeat (refine gk trivial ?_)
 refine c_loop (Spec_SMono L) (fun (i : Nat) => [(0, .h (.sl tk 1 (l.map S))), (1, .h (.fn g caps)), (7, .h (I l.length)), (8, .h (I i))]) (fun _ => [])
   (fun i H' => H' = H ∧ ∃ h : i ≤ l.length, ∀ j (hj : j < i), f (l[j]'(by omega)) = false) (fun i => l.length - i) 0 ?_ ⟨rfl, by omega, fun j hj => by omega⟩ ?_
 · (refine leM ?_ ?_ ?_ <;> (repeat refine leS trivial ?_) <;> exact leE)
 rintro i H' ⟨rfl, hi, hb⟩
 repeat (refine gk trivial ?_)
 (refine ct trivial ?_ ?_ <;> intro h)
 · have hi' : i < l.length := by simpa using h
   repeat (refine gk trivial ?_)
   (apply r_callv; (focus rfl); (focus rfl))
   refine hf l[i] (List.getElem_mem hi') _ ?_
   repeat (refine gk trivial ?_)
   (refine ct trivial ?_ ?_ <;> intro h2)
   · repeat (refine gk trivial ?_)
     rw [firstIdx_some hi' h2 hb] at hk
     exact resK_some hk
   · repeat (refine gk trivial ?_)
     refine k_n (i + 1) (by omega) ⟨rfl, by omega, fun j hj => ?_⟩ ?_
     · rcases Nat.lt_or_ge j i with h3 | h3
       · exact hb j h3
       · have : j = i := by omega
         subst this; exact h2
     · (refine leM ?_ ?_ ?_ <;> (repeat refine leS trivial ?_) <;> exact leE)
 · have hi' : i = l.length := by have : ¬ i < l.length := by simpa using h
                                 omega
   subst hi'
   rw [firstIdx_none hb] at hk
   repeat (refine gk trivial ?_)
   exact resK_some hk
theorem hasS_spec (L : Linked code) (g : Nat) (caps : List HV) (f : List UInt8 → Bool) (tk : Tk) (l : List (List UInt8)) (hl : l.length ≤ 1048577) (H : Heap) (hf : ∀ p ∈ l, ∀ K, K (B (f p)) H → Spec L.P L.ν g (S p :: caps) H K) (K) (hk : K (B (l.any f)) H) :
   Spec L.P L.ν 201 [.sl tk 1 (l.map S), .fn g caps] H K := by
 refine go_spec L code201 rfl ?_
 repeat (refine gk trivial ?_)
 (apply r_call; (focus rfl))
 refine idxS_spec L g caps f tk l hl H hf _ ?_
 repeat (refine gk trivial ?_)
 rw [firstIdx_ge]
 repeat (refine gk trivial ?_)
 exact resK_some hk
theorem bad_spec (L : Linked code) (l : List UInt8) (hl : l.length ≤ 1048576) : Pure L 202 [S l] (B (!nameB l)) := by
 intro H K hk
 refine go_spec L code202 rfl ?_
 repeat (refine gk trivial ?_)
 (apply r_call; (focus rfl))
 refine pname_spec L l hl H _ ?_
 repeat (refine gk trivial ?_)
 exact resK_some hk
theorem pcheck_spec (L : Linked code) (l : List UInt8) (hl : l.length ≤ 1048576) (H : Heap) (K) (hk : ∀ H', Fr [] H H' → K (I (chkP l)) H') : Spec L.P L.ν 192 [S l] H K := by
 have h1 := spl_len l
 unfold chkP at hk
 refine go_spec L code192 rfl ?_
 repeat (refine gk trivial ?_)
 cases c1 : decide ((128 : Int) < (l.length : Int))
 case true =>
   rw [if_pos (by simp only [decide_eq_true_eq] at c1; omega)] at hk
   repeat (refine gk trivial ?_)
   exact resK_some (hk H (Fr.refl _ _))
 rw [if_neg (by simp only [decide_eq_false_iff_not] at c1; omega)] at hk
 repeat (refine gk trivial ?_)
 (apply r_call; (focus rfl))
 refine psplit_spec L l hl H _ fun H1 f1 => ?_
 replace hk := hk H1 f1
 have hm : ∀ s ∈ spl l, s.length ≤ 1048576 := fun s hs => Nat.le_trans (spl_mem hs) hl
 generalize spl l = x at h1 hk hm ⊢
 repeat (refine gk trivial ?_)
 cases c2 : (((x.length : Nat) : Int) == 0)
 case true =>
   have : x = [] := by simp only [beq_iff_eq] at c2; exact List.length_eq_zero_iff.mp (by omega)
   rw [if_neg (by subst this; simp), if_pos this] at hk
   repeat (refine gk trivial ?_)
   exact resK_some hk
 have hx : ¬ x = [] := by rintro rfl; simp at c2
 repeat (refine gk trivial ?_)
 (apply r_call; (focus rfl))
 refine hasS_spec L 202 [] (fun s => !nameB s) .no x (by omega) H1 (fun p hp K hk => bad_spec L p (hm p hp) H1 K hk) _ ?_
 cases c3 : x.any (fun s => !nameB s)
 case true =>
   rw [if_pos c3] at hk
   repeat (refine gk trivial ?_)
   exact resK_some hk
 rw [if_neg (by simp [c3]), if_neg hx] at hk
 repeat (refine gk trivial ?_)
 cases c4 : decide ((8 : Int) < (x.length : Int))
 case true =>
   rw [if_pos (by simp only [decide_eq_true_eq] at c4; omega)] at hk
   repeat (refine gk trivial ?_)
   exact resK_some hk
 rw [if_neg (by simp only [decide_eq_false_iff_not] at c4; omega)] at hk
 repeat (refine gk trivial ?_)
 exact resK_some hk
end Sm
namespace Sm
open Go
structure Ent where
 path : List UInt8
 dir : Bool
 data : List UInt8
 deriving DecidableEq, Inhabited
def encE (e : Ent) : HV := .ag [S e.path, B e.dir, .sl .no 1 (e.data.map U)]
theorem entU : ∀ e : Ent, encE e = .ag [S e.path, B e.dir, .sl .no 1 (e.data.map U)] := fun _ => rfl
def PureF (L : Linked code) (g : Nat) (args : List HV) (r : HV) : Prop := ∀ H K, (∀ H', Fr [] H H' → K r H') → Spec L.P L.ν g args H K
theorem find_at {α : Type} {f : α → Bool} {l : List α} {i : Nat} (hi : i < l.length) (hf : f l[i] = true) (hb : ∀ j (hj : j < i), f (l[j]'(by omega)) = false) : l.find? f = some l[i] := by
 rw [List.find?_eq_some_iff_getElem]
 exact ⟨hf, i, hi, rfl, fun j hj => by simp [hb j hj]⟩
theorem find_no {α : Type} {f : α → Bool} {l : List α} (hb : ∀ j (hj : j < l.length), f l[j] = false) : l.find? f = none := by
 rw [List.find?_eq_none]
 intro x hx
 obtain ⟨j, hj, rfl⟩ := List.getElem_of_mem hx
 simp [hb j hj]
theorem firstIdx_cases {α : Type} (f : α → Bool) (l : List α) : (firstIdx f l = -1 ∧ l.find? f = none) ∨ ∃ i, ∃ h : i < l.length, firstIdx f l = i ∧ l.find? f = some l[i] ∧ f l[i] = true ∧ ∀ j (hj : j < i), f (l[j]'(by omega)) = false := by
 cases h : l.any f
 · left
   have h2 : ∀ j (hj : j < l.length), f l[j] = false := fun j hj => by
     have := List.any_eq_false.mp h l[j] (List.getElem_mem hj)
     simpa using this
   exact ⟨firstIdx_none h2, find_no h2⟩
 · right
   have hlt : l.findIdx f < l.length := List.findIdx_lt_length_of_exists (by simpa using List.any_eq_true.mp h)
   have h1 : f l[l.findIdx f] = true := List.findIdx_getElem
   have h2 : ∀ j (hj : j < l.findIdx f), f (l[j]'(by omega)) = false := fun j hj => by simpa using List.not_of_lt_findIdx hj
   exact ⟨l.findIdx f, hlt, by rw [firstIdx, if_pos h], find_at hlt h1 h2, h1, h2⟩
theorem Apd.fr0 {H H' : Heap} {tk' : Tk} (h : Apd H H' .full tk') : Fr [] H H' := by simpa [tb] using h.fr
attribute [local irreducible] csem rsem dsem seqK blockK normK finK DK RK JK BR G3 resK Spec Tok Fr
theorem cloneB_spec (L : Linked code) (tk : Tk) (l : List UInt8) (hl : l.length ≤ 140737488355328) : PureF L 186 [.sl tk 1 (l.map U)] (.sl .no 1 (l.map U)) := by
 intro H K hk
 refine go_spec L code186 rfl ?_
 repeat (refine gk entU ?_)
 refine r_isnil rfl fun t ht => ?_
 cases t
 · repeat (refine gk entU ?_)
   apply r_app; (focus rfl); (focus rfl); (focus exact Tok.ful2 _ _ _); (focus (simp; omega))
   intro tk' H' h1 h2
   repeat (refine gk entU ?_)
   exact resK_weak (Weak.drop _ _ _) (hk H' h2.fr0)
 · have hl : l = [] := by simpa using ht rfl
   subst hl
   repeat (refine gk entU ?_)
   exact resK_weak (Weak.nil' 1) (hk H (Fr.refl _ _))
theorem beq_spec (L : Linked code) (t1 t2 : Tk) (a b : List UInt8) : Pure L 194 [.sl t1 1 (a.map U), .sl t2 1 (b.map U)] (B (a == b)) := by
 intro H K hk
 refine go_spec L code194 rfl ?_
 repeat (refine gk entU ?_)
 exact resK_some hk
theorem idxE_spec (L : Linked code) (g : Nat) (caps : List HV) (f : Ent → Bool) (tk : Tk) (l : List Ent) (hl : l.length ≤ 1048576) (H : Heap) (hf : ∀ p ∈ l, ∀ H' K, Fr [] H H' → (∀ H'', Fr [] H' H'' → K (B (f p)) H'') → Spec L.P L.ν g (encE p :: caps) H' K) (K) (hk : ∀ H', Fr [] H H' → K (I (firstIdx f l)) H') :
   Spec L.P L.ν 189 [.sl tk 3 (l.map encE), .fn g caps] H K := by
 refine go_spec L code189 rfl ?_
 repeat (refine gk entU ?_)
 refine c_loop (Spec_SMono L) (fun (i : Nat) => [(0, .h (.sl tk 3 (l.map encE))), (1, .h (.fn g caps)), (7, .h (I l.length)), (8, .h (I i))]) (fun _ => [])
   (fun i H' => Fr [] H H' ∧ ∃ h : i ≤ l.length, ∀ j (hj : j < i), f (l[j]'(by omega)) = false) (fun i => l.length - i) 0 ?_ ⟨Fr.refl _ _, by omega, fun j hj => by omega⟩ ?_
 · (refine leM ?_ ?_ ?_ <;> (repeat refine leS trivial ?_) <;> exact leE)
 rintro i H' ⟨hfr, hi, hb⟩
 repeat (refine gk entU ?_)
 (refine ct entU ?_ ?_ <;> intro h)
 · have hi' : i < l.length := by simpa using h
   repeat (refine gk entU ?_)
   (apply r_callv; (focus rfl); (focus rfl))
   refine hf l[i] (List.getElem_mem hi') H' _ hfr fun H2 f2 => ?_
   repeat (refine gk entU ?_)
   (refine ct entU ?_ ?_ <;> intro h2)
   · repeat (refine gk entU ?_)
     replace hk := hk H2 (hfr.trans f2)
     rw [firstIdx_some hi' h2 hb] at hk
     exact resK_some hk
   · repeat (refine gk entU ?_)
     refine k_n (i + 1) (by omega) ⟨hfr.trans f2, by omega, fun j hj => ?_⟩ ?_
     · rcases Nat.lt_or_ge j i with h3 | h3
       · exact hb j h3
       · have : j = i := by omega
         subst this; exact h2
     · (refine leM ?_ ?_ ?_ <;> (repeat refine leS trivial ?_) <;> exact leE)
 · have hi' : i = l.length := by have : ¬ i < l.length := by simpa using h
                                 omega
   subst hi'
   replace hk := hk H' hfr
   rw [firstIdx_none hb] at hk
   repeat (refine gk entU ?_)
   exact resK_some hk
end Sm
namespace Sm
open Go
attribute [local irreducible] csem rsem dsem seqK blockK normK finK DK RK JK BR G3 resK Spec Tok Fr
end Sm
namespace Sm
open Go
attribute [local irreducible] csem rsem dsem seqK blockK normK finK DK RK JK BR G3 resK Spec Tok Fr
end Sm
