/-
  J18,J19,J20,J21,J22,J23,J24,J25
-/
import Derived.Test.YtegmmhldpmmkeaaGreatDoorSmJC
set_option linter.unusedVariables false
set_option linter.unusedSimpArgs false
set_option maxRecDepth 10000
set_option maxHeartbeats 4000000
namespace Sm
open Go
structure Elt (α : Type) where
 f : α → HV
 sz : Nat
 nc : ∀ x, (f x).ncells = sz
 el : ∀ x, (f x).el = true
def recT : Elt Rc := ⟨recE, 37, fun _ => rfl, fun _ => rfl⟩
def ptT : Elt Pt := ⟨partE, 36, fun _ => rfl, fun _ => rfl⟩
def cellsG {α : Type} (T : Elt α) (l : List α) : List HV := (l.map T.f).flatMap HV.cells
theorem cellsG_len {α : Type} (T : Elt α) (l : List α) : (cellsG T l).length = l.length * T.sz := by
 unfold cellsG
 rw [flat_cells_len (fun e he => by obtain ⟨x, _, rfl⟩ := List.mem_map.mp he; exact T.nc x), List.length_map]
theorem cellsG_app {α : Type} (T : Elt α) (a b : List α) : cellsG T (a ++ b) = cellsG T a ++ cellsG T b := by simp [cellsG]
theorem elG {α : Type} (T : Elt α) (l : List α) : (l.map T.f).all HV.el = true := by simp [T.el]
theorem ncG {α : Type} (T : Elt α) (l : List α) : ∀ e ∈ l.map T.f, e.ncells = T.sz := fun e he => by obtain ⟨x, _, rfl⟩ := List.mem_map.mp he; exact T.nc x
def OG {α : Type} (T : Elt α) (H0 X : Heap) (v : HV) (l : List α) : Prop := (v = .v (.slice none 0 0) ∧ l = []) ∨ (v = .sl .full T.sz [] ∧ l = []) ∨ ∃ b c zs, v = .v (.slice (some ⟨b, 0, none⟩) l.length c) ∧ H0 b = none ∧ X b = some (.obj (cellsG T l ++ zs)) ∧ l.length * T.sz + zs.length = c * T.sz ∧ l.length ≤ c ∧ c ≤ maxLen
theorem OG.nil {α : Type} (T : Elt α) (H0 X : Heap) : OG T H0 X (.v (.slice none 0 0)) [] := .inl ⟨rfl, rfl⟩
theorem rdm_sl {α : Type} (T : Elt α) (X : Heap) (tk : Tk) (l : List α) : rdm X T.sz (.sl tk T.sz (l.map T.f)) = some (l.length, cellsG T l) := by
 simp only [rdm, if_true, List.length_map, cellsG]
theorem OG.up {α : Type} {T : Elt α} {H H1 X : Heap} {v : HV} {l : List α} (h : OG T H1 X v l) (f : Fr [] H H1) : OG T H X v l := by
 rcases h with h | h | ⟨b, c, zs, h1, h2, h3⟩
 · exact .inl h
 · exact .inr (.inl h)
 · exact .inr (.inr ⟨b, c, zs, h1, f.of_none h2, h3⟩)
theorem OG.fr {α : Type} {T : Elt α} {H X Y : Heap} {v : HV} {l : List α} {bs : List Nat} (h : OG T H X v l) (f : Fr bs X Y) (hb : ∀ b, H b = none → X b ≠ none → b ∉ bs) : OG T H Y v l := by
 rcases h with h | h | ⟨b, c, zs, h1, h2, h3, h4⟩
 · exact .inl h
 · exact .inr (.inl h)
 · exact .inr (.inr ⟨b, c, zs, h1, h2, f.get (hb b h2 (by rw [h3]; simp)) h3, h4⟩)
theorem OG.fr0 {α : Type} {T : Elt α} {H X Y : Heap} {v : HV} {l : List α} (h : OG T H X v l) (f : Fr [] X Y) : OG T H Y v l := h.fr f (by simp)
theorem r_appG {α : Type} {T : Elt α} {S' : SpecT} {sl : List (Nat × EV)} {bx : List (Nat × List HV)} {H0 H : Heap} {K : Env → Heap → Prop} {os : List SOper} {d sz bytes : Nat} {x y : Opd} {v w : HV} {l r : List α}
   (hG : OG T H0 H v l) (hf : Fr [] H0 H) (hsz : T.sz = sz) (hx : (M sl bx).hv x = some v) (hy : (M sl bx).hv y = some w) (hr : rdm H T.sz w = some (r.length, cellsG T r)) (hl : (l.length + r.length) * bytes ≤ 140737488355328)
   (h : ∀ v' X, OG T H0 X v' (l ++ r) → Fr [] H0 X → Fr (ownb v) H X → rsem S' os (M ((d, .h v') :: sl) bx) X K) :
   rsem S' (⟨some d, .app sz bytes x y, none⟩ :: os) (M sl bx) H K := by
 subst hsz
 rw [rsem_cons]
 simp only [SOp.step, hx, hy]
 refine .inr ?_
 have up : ∀ {X : Heap}, Fr [] H X → Fr (ownb v) H X := fun f a r' _ hr => f a r' (by simp) hr
 have fin : ∀ v' X, OG T H0 X v' (l ++ r) → Fr [] H0 X → Fr (ownb v) H X → rK S' os K (some d) (.h v') (M sl bx) X := fun v' X g1 g2 g4 => by rw [rK_app, M_put]; exact h v' X g1 g2 g4
 have new : ∀ (cs : List HV), cs = cellsG T (l ++ r) → newrow H T.sz bytes (l.length + r.length) cs fun a X => rK S' os K (some d) (.h a) (M sl bx) X := fun cs hcs => ⟨hl, fun b c zs hb h1 h2 h3 h4 => by
   subst hcs
   refine fin _ _ (.inr (.inr ⟨b, c, zs, by rw [List.length_append], hf.of_none hb, Heap.upd_same _ _ _, ?_, by rw [List.length_append]; omega, h2⟩)) (hf.trans (Fr.new hb)) (up (Fr.new hb))
   rw [List.length_append, h3, ← Nat.add_mul]
   congr 1
   omega⟩
 unfold appK
 rw [hr]
 simp only
 rcases hG with ⟨rfl, rfl⟩ | ⟨rfl, rfl⟩ | ⟨b, c, zs, rfl, hb, hX, hc, hlc, hm⟩
 · refine ⟨fun h0 => ?_, fun h0 => by have := new _ rfl; rw [List.length_nil, Nat.zero_add] at this; exact this⟩
   have : r = [] := List.eq_nil_of_length_eq_zero h0
   subst this
   exact fin _ _ (OG.nil T _ _) hf (up (Fr.refl _ _))
 · refine ⟨rfl, fun h0 => ?_, fun h0 => ?_⟩
   · have : r = [] := List.eq_nil_of_length_eq_zero h0
     subst this
     exact fin _ _ (.inr (.inl ⟨rfl, rfl⟩)) hf (up (Fr.refl _ _))
   · have := new _ rfl
     exact this
 · refine ⟨_, hX, hlc, by rw [List.length_append, cellsG_len]; omega, fun hroom => ?_, fun hroom => ?_⟩
   · have hz : (cellsG T r).length ≤ zs.length := by
       rw [cellsG_len]
       have : (l.length + r.length) * T.sz ≤ c * T.sz := Nat.mul_le_mul_right _ hroom
       rw [Nat.add_mul] at this
       omega
     have e : setL (cellsG T l ++ zs) (0 + l.length * T.sz) (cellsG T r) = cellsG T (l ++ r) ++ zs.drop (cellsG T r).length := by
       rw [Nat.zero_add, cellsG_app]
       have h2 := setL_mid (A := cellsG T l) (X := zs.take (cellsG T r).length) (Y := cellsG T r) (Z := zs.drop (cellsG T r).length) (i := l.length * T.sz) (cellsG_len T l) (by rw [List.length_take]; omega)
       rw [List.append_assoc, List.take_append_drop] at h2
       exact h2
     refine fin _ _ (.inr (.inr ⟨b, c, zs.drop (cellsG T r).length, by rw [List.length_append], hb, by rw [Heap.upd_same, e], ?_, by rw [List.length_append]; exact hroom, hm⟩)) ?_ ?_
     · rw [List.length_append, List.length_drop, cellsG_len, Nat.add_mul]
       rw [cellsG_len] at hz
       omega
     · exact hf.own hb (Fr.set (by simp))
     · exact Fr.set (by simp [ownb])
   · have e : ((cellsG T l ++ zs).drop 0).take (l.length * T.sz) ++ cellsG T r = cellsG T (l ++ r) := by
       rw [List.drop_zero, List.take_left' (cellsG_len T l), cellsG_app]
     exact new _ e
theorem OG.give {α : Type} {T : Elt α} {H X : Heap} {v : HV} {l : List α} (h : OG T H X v l) (f : Fr [] H X) {Q : HV → Heap → Prop} (hk : ∀ Y, Fr [] H Y → Q (.sl .no T.sz (l.map T.f)) Y) :
   Q v X ∨ (∃ r', Weak v r' ∧ Q r' X) ∨ ∃ b cs r', X b = some (.obj cs) ∧ FW b cs v r' ∧ Q r' (X.upd b none) := by
 rcases h with ⟨rfl, rfl⟩ | ⟨rfl, rfl⟩ | ⟨b, c, zs, rfl, hb, hX, hc, hlc, hm⟩
 · exact .inr (.inl ⟨_, Weak.nil' T.sz, hk X f⟩)
 · exact .inr (.inl ⟨_, Weak.drop _ _ _, hk X f⟩)
 · refine .inr (.inr ⟨b, _, .sl .no T.sz (l.map T.f), hX, FW.slice ?_ ?_ (by simp) hlc hm (elG T l) (ncG T l), hk _ (f.give hb)⟩)
   · rw [List.take_left' (cellsG_len T l)]; rfl
   · rw [List.length_append, cellsG_len]; omega
theorem OG.giveT {α : Type} {T : Elt α} {H X : Heap} {v : HV} {l : List α} {zs' : List HV} (h : OG T H X v l) (f : Fr [] H X) {Q : HV → Heap → Prop} (hk : ∀ Y, Fr [] H Y → Q (.tu (.sl .no T.sz (l.map T.f) :: zs')) Y) :
   Q (.tu (v :: zs')) X ∨ (∃ r', Weak (.tu (v :: zs')) r' ∧ Q r' X) ∨ ∃ b cs r', X b = some (.obj cs) ∧ FW b cs (.tu (v :: zs')) r' ∧ Q r' (X.upd b none) := by
 rcases h with ⟨rfl, rfl⟩ | ⟨rfl, rfl⟩ | ⟨b, c, zs, rfl, hb, hX, hc, hlc, hm⟩
 · exact .inr (.inl ⟨_, Weak.tu (show WeakL (.v (.slice none 0 0) :: zs') (.sl .no T.sz ([].map T.f) :: zs') from ⟨Weak.nil' T.sz, WeakL.refl _⟩), hk X f⟩)
 · exact .inr (.inl ⟨_, Weak.tu (show WeakL (.sl .full T.sz ([].map T.f) :: zs') (.sl .no T.sz ([].map T.f) :: zs') from ⟨Weak.drop _ _ _, WeakL.refl _⟩), hk X f⟩)
 · refine .inr (.inr ⟨b, _, .tu (.sl .no T.sz (l.map T.f) :: zs'), hX, FW.tu ⟨FW.slice ?_ ?_ (by simp) hlc hm (elG T l) (ncG T l), FWL.refl _ _ _⟩, hk _ (f.give hb)⟩)
   · rw [List.take_left' (cellsG_len T l)]; rfl
   · rw [List.length_append, cellsG_len]; omega
def RG {α : Type} (T : Elt α) (X : Heap) (v : HV) (l : List α) : Prop := (v = .v (.slice none 0 0) ∧ l = []) ∨ (∃ tk, v = .sl tk T.sz (l.map T.f)) ∨ ∃ b c zs, v = .v (.slice (some ⟨b, 0, none⟩) l.length c) ∧ X b = some (.obj (cellsG T l ++ zs)) ∧ l.length ≤ c
theorem OG.rg {α : Type} {T : Elt α} {H0 X : Heap} {v : HV} {l : List α} (h : OG T H0 X v l) : RG T X v l := by
 rcases h with ⟨rfl, rfl⟩ | ⟨rfl, rfl⟩ | ⟨b, c, zs, rfl, hb, hX, hc, hlc, hm⟩
 · exact .inl ⟨rfl, rfl⟩
 · exact .inr (.inl ⟨_, rfl⟩)
 · exact .inr (.inr ⟨b, c, zs, rfl, hX, hlc⟩)
theorem RG.fr {α : Type} {T : Elt α} {X Y : Heap} {v : HV} {l : List α} (h : RG T X v l) (f : Fr [] X Y) : RG T Y v l := by
 rcases h with h | h | ⟨b, c, zs, h1, h2, h3⟩
 · exact .inl h
 · exact .inr (.inl h)
 · exact .inr (.inr ⟨b, c, zs, h1, f.get (by simp) h2, h3⟩)
theorem r_lenG {α : Type} {T : Elt α} {S' : SpecT} {sl : List (Nat × EV)} {bx : List (Nat × List HV)} {H : Heap} {K : Env → Heap → Prop} {os : List SOper} {d : Nat} {x : Opd} {w : HV} {l : List α}
   (hx : (M sl bx).hv x = some w) (hr : RG T H w l) (h : rsem S' os (M ((d, .h (I l.length)) :: sl) bx) H K) : rsem S' (⟨some d, .len x, none⟩ :: os) (M sl bx) H K := by
 refine r_calm rfl ?_ h
 rcases hr with ⟨rfl, rfl⟩ | ⟨tk, rfl⟩ | ⟨b, c, cs, rfl, _⟩
 · simp only [SOp.ev, hx]; rfl
 · simp only [SOp.ev, hx, List.length_map]
 · simp only [SOp.ev, hx]
theorem cellsG_at {α : Type} (T : Elt α) : ∀ (l : List α) (j : Nat) (x : α) (zs : List HV), l[j]? = some x → ((cellsG T l ++ zs).drop (j * T.sz)).take T.sz = (T.f x).cells
 | [], j, x, zs, h => by simp at h
 | y :: l, 0, x, zs, h => by
   simp only [List.getElem?_cons_zero, Option.some.injEq] at h
   subst h
   rw [Nat.zero_mul, List.drop_zero, show cellsG T (y :: l) = (T.f y).cells ++ cellsG T l from rfl, List.append_assoc]
   exact List.take_left' ((cells_len _).trans (T.nc y))
 | y :: l, j + 1, x, zs, h => by
   rw [List.getElem?_cons_succ] at h
   rw [show cellsG T (y :: l) = (T.f y).cells ++ cellsG T l from rfl, List.append_assoc, Nat.succ_mul, Nat.add_comm (j * T.sz) T.sz]
   rw [← List.drop_drop, List.drop_left' ((cells_len _).trans (T.nc y))]
   exact cellsG_at T l j x zs h
def PG (X : Heap) (p : HV) (cs : List HV) : Prop := p = .rp cs ∨ ∃ b off full zs, p = .v (.pointer (some ⟨b, off, none⟩)) ∧ X b = some (.obj full) ∧ off ≤ full.length ∧ full.drop off = cs ++ zs
theorem r_idxG {α : Type} {T : Elt α} {S' : SpecT} {sl : List (Nat × EV)} {bx : List (Nat × List HV)} {H : Heap} {K : Env → Heap → Prop} {os : List SOper} {d sz : Nat} {x i : Opd} {w : HV} {l : List α} {j : Nat} {z : Int} {a : α}
   (hs : T.sz = sz) (hx : (M sl bx).hv x = some w) (hr : RG T H w l) (hi : (M sl bx).hv i = some (I z)) (hz : z = (j : Int)) (hj : l[j]? = some a)
   (h : ∀ p, PG H p (T.f a).cells → rsem S' os (M ((d, .h p) :: sl) bx) H K) : rsem S' (⟨some d, .idx sz x i, none⟩ :: os) (M sl bx) H K := by
 subst hs hz
 have hlt : j < l.length := by
   rcases Nat.lt_or_ge j l.length with h | h
   · exact h
   · rw [List.getElem?_eq_none h] at hj; cases hj
 rcases hr with ⟨rfl, rfl⟩ | ⟨tk, rfl⟩ | ⟨b, c, zs, rfl, hX, hc⟩
 · simp at hlt
 · refine r_calm (x := .h (.rp (T.f a).cells)) rfl ?_ (h _ (.inl rfl))
   simp only [SOp.ev, hx, hi, Int.toNat_natCast]
   rw [if_pos ⟨trivial, by omega⟩, List.getElem?_map, hj]
   rfl
 · refine r_calm (x := .h (.v (.pointer (some ⟨b, j * T.sz, none⟩)))) rfl ?_ (h _ (.inr ⟨b, j * T.sz, _, (cellsG T l ++ zs).drop (j * T.sz + T.sz), rfl, hX, ?_, ?_⟩))
   · simp only [SOp.ev, hx, hi, Int.toNat_natCast]
     rw [if_pos ⟨by omega, by omega⟩, Nat.zero_add]
   · rw [List.length_append, cellsG_len]
     have := Nat.mul_le_mul_right T.sz (Nat.le_of_lt hlt)
     omega
   · rw [← List.drop_drop, ← cellsG_at T l j a zs hj, List.take_append_drop]
theorem r_fldG {S' : SpecT} {sl : List (Nat × EV)} {bx : List (Nat × List HV)} {H : Heap} {K : Env → Heap → Prop} {os : List SOper} {d k : Nat} {x : Opd} {p : HV} {cs : List HV}
   (hx : (M sl bx).opd x = some (.h p)) (hp : PG H p cs) (hk : k ≤ cs.length)
   (h : ∀ p', PG H p' (cs.drop k) → rsem S' os (M ((d, .h p') :: sl) bx) H K) : rsem S' (⟨some d, .fld k x, none⟩ :: os) (M sl bx) H K := by
 rcases hp with rfl | ⟨b, off, full, zs, rfl, hX, ho, hd⟩
 · refine r_calm (x := .h (.rp (cs.drop k))) rfl ?_ (h _ (.inl rfl))
   simp only [SOp.ev, hx]
   rw [if_pos hk]
 · refine r_calm (x := .h (.v (.pointer (some ⟨b, off + k, none⟩)))) rfl ?_ (h _ (.inr ⟨b, off + k, full, zs, rfl, hX, ?_, ?_⟩))
   · simp only [SOp.ev, hx]
   · have := congrArg List.length hd
     rw [List.length_drop, List.length_append] at this
     omega
   · rw [← List.drop_drop, hd, List.drop_append_of_le_length hk]
theorem r_loadG {S' : SpecT} {sl : List (Nat × EV)} {bx : List (Nat × List HV)} {H : Heap} {K : Env → Heap → Prop} {os : List SOper} {d n : Nat} {agg : Bool} {x : Opd} {p v : HV} {cs : List HV}
   (hx : (M sl bx).opd x = some (.h p)) (hp : PG H p cs) (hv : loadv agg n 0 cs = some v)
   (h : rsem S' os (M ((d, .h v) :: sl) bx) H K) : rsem S' (⟨some d, .load agg n x, none⟩ :: os) (M sl bx) H K := by
 rcases hp with rfl | ⟨b, off, full, zs, rfl, hX, ho, hd⟩
 · exact r_loadr hx hv h
 · refine r_load hx hX ?_ h
   unfold loadv at hv ⊢
   split at hv
   · next hn =>
     rw [if_pos (by have := congrArg List.length hd; rw [List.length_drop, List.length_append] at this; omega)]
     rw [hd, List.take_append_of_le_length (by omega)]
     exact hv
   · cases hv
theorem OG.one {α : Type} {T : Elt α} {H X : Heap} {v : HV} {l : List α} (h : OG T H X v l) : v.ncells = 1 := by
 rcases h with ⟨rfl, rfl⟩ | ⟨rfl, rfl⟩ | ⟨b, c, zs, rfl, _⟩ <;> rfl
theorem OG.el {α : Type} {T : Elt α} {H X : Heap} {v : HV} {l : List α} (h : OG T H X v l) : v.el = true := by
 rcases h with ⟨rfl, rfl⟩ | ⟨rfl, rfl⟩ | ⟨b, c, zs, rfl, _⟩ <;> rfl
theorem OG.cel {α : Type} {T : Elt α} {H X : Heap} {v : HV} {l : List α} (h : OG T H X v l) : v.cells = [v] := by
 rcases h with ⟨rfl, rfl⟩ | ⟨rfl, rfl⟩ | ⟨b, c, zs, rfl, _⟩ <;> rfl
theorem OG.el2 {α : Type} {T : Elt α} {H X : Heap} {v : HV} {l : List α} (h : OG T H X v l) (n : Int) : (HV.ag [v, I n]).el = true := by
 rcases h with ⟨rfl, rfl⟩ | ⟨rfl, rfl⟩ | ⟨b, c, zs, rfl, _⟩ <;> rfl
theorem RG.el2 {α : Type} {T : Elt α} {X : Heap} {v : HV} {l : List α} (h : RG T X v l) (n : Int) : (HV.ag [v, I n]).el = true := by
 rcases h with ⟨rfl, rfl⟩ | ⟨tk, rfl⟩ | ⟨b, c, zs, rfl, _⟩ <;> rfl
def zR : Rc := ⟨0, 0, [], [], 0, 0⟩
def partB (b : List UInt8) : List UInt8 := (b.drop (shortV b).2.1.toNat).take (shortV b).1.toNat
def firstR (b : List UInt8) : Rc × Int × Int :=
 bif (shortV b).2.2 != 0 then (zR, 0, (shortV b).2.2) else bif decide (512 < (shortV b).1) then (zR, 0, 4) else bif decide ((b.length : Int) - (shortV b).2.1 < (shortV b).1) then (zR, 0, 3) else
 bif (openB (partB b)).2 != 0 then (zR, 0, 4) else bif (readR (openB (partB b)).1).2 then ((readR (openB (partB b)).1).1, (shortV b).2.1 + (shortV b).1, 0) else (zR, 0, 4)
theorem openB_len (l : List UInt8) : (openB l).1.length ≤ l.length := by
 unfold openB
 split
 · exact Nat.zero_le _
 · split
   · simp only [List.length_take]; omega
   · exact Nat.zero_le _
attribute [local irreducible] csem rsem dsem seqK blockK normK finK DK RK JK BR G3 resK Spec Tok Fr CV
theorem firstR_spec (L : Linked code) (tk : Tk) (l : List UInt8) (hl : l.length ≤ 1048576) : PureF L 431 [.sl tk 1 (l.map U)] (.tu [recE (firstR l).1, I (firstR l).2.1, I (firstR l).2.2]) := by
 intro H K hk
 refine go_spec L code431 rfl ?_
 unfold firstR at hk
 have hb := shortV_hb l
 repeat (refine gr trivial ?_)
 (apply r_call; (focus rfl))
 refine shortest_spec L tk l hl H _ fun X fX => ?_
 repeat (refine gr trivial ?_)
 cases c1 : (shortV l).2.2 != 0
 · rw [c1] at hk
   have e1 : (shortV l).2.2 = 0 := by simpa using c1
   have hle := shortV_le l e1
   repeat (refine gr trivial ?_)
   cases c2 : decide (512 < (shortV l).1)
   · rw [c2] at hk
     repeat (refine gr trivial ?_)
     cases c3 : decide ((l.length : Int) - (shortV l).2.1 < (shortV l).1)
     · rw [c3] at hk
       have c3 := of_decide_eq_false c3
       have c2 := of_decide_eq_false c2
       have hp : (partB l).length ≤ 1048576 := by simp only [partB, List.length_take, List.length_drop]; omega
       have ho := Nat.le_trans (openB_len (partB l)) hp
       have e2 : (((l.drop (shortV l).2.1.toNat).take (((shortV l).2.1 + (shortV l).1).toNat - (shortV l).2.1.toNat))) = partB l := by
         unfold partB; congr 1; omega
       repeat (refine gr trivial ?_)
       apply r_midB (a := (shortV l).2.1.toNat) (h := ((shortV l).2.1 + (shortV l).1).toNat); (focus rfl); (focus (show some _ = _; congr 1; omega)); (focus (show some _ = _; congr 1; omega)); (focus omega); (focus omega)
       intro t2
       rw [e2]
       (apply r_call; (focus rfl))
       refine open_spec L t2 (partB l) hp X _ fun Y fY => ?_
       generalize openB (partB l) = o at *
       repeat (refine gr trivial ?_)
       cases c4 : o.2 != 0
       · rw [c4] at hk
         repeat (refine gr trivial ?_)
         (apply r_call; (focus rfl))
         refine readR_spec L _ o.1 ho Y _ fun Z fZ => ?_
         generalize readR o.1 = q at *
         repeat (refine gr trivial ?_)
         refine r_storeW (v := recE q.1) (cs' := rcC q.1) rfl rfl rfl rfl rfl rfl rfl rfl ?_
         repeat (refine gr trivial ?_)
         cases c5 : q.2
         · rw [c5] at hk
           rw [Bool.not_false]
           repeat (refine gr trivial ?_)
           refine r_calm (x := .h (recE zR)) rfl rfl ?_
           repeat (refine gr trivial ?_)
           refine r_storeW (v := recE zR) (cs' := rcC zR) rfl rfl rfl rfl rfl rfl rfl rfl ?_
           repeat (refine gr trivial ?_)
           exact resK_some (hk _ (fX.trans (fY.trans fZ)))
         · rw [c5] at hk
           rw [Bool.not_true]
           repeat (refine gr trivial ?_)
           apply r_loadb (v := recE q.1); (focus rfl); (focus rfl); (focus rfl)
           repeat (refine gr trivial ?_)
           refine r_storeW (v := recE q.1) (cs' := rcC q.1) rfl rfl rfl rfl rfl rfl rfl rfl ?_
           repeat (refine gr trivial ?_)
           exact resK_some (hk _ (fX.trans (fY.trans fZ)))
       · rw [c4] at hk
         repeat (refine gr trivial ?_)
         refine r_calm (x := .h (recE zR)) rfl rfl ?_
         repeat (refine gr trivial ?_)
         refine r_storeW (v := recE zR) (cs' := rcC zR) rfl rfl rfl rfl rfl rfl rfl rfl ?_
         repeat (refine gr trivial ?_)
         exact resK_some (hk _ (fX.trans fY))
     · rw [c3] at hk
       repeat (refine gr trivial ?_)
       refine r_calm (x := .h (recE zR)) rfl rfl ?_
       repeat (refine gr trivial ?_)
       refine r_storeW (v := recE zR) (cs' := rcC zR) rfl rfl rfl rfl rfl rfl rfl rfl ?_
       repeat (refine gr trivial ?_)
       exact resK_some (hk _ fX)
   · rw [c2] at hk
     repeat (refine gr trivial ?_)
     refine r_calm (x := .h (recE zR)) rfl rfl ?_
     repeat (refine gr trivial ?_)
     refine r_storeW (v := recE zR) (cs' := rcC zR) rfl rfl rfl rfl rfl rfl rfl rfl ?_
     repeat (refine gr trivial ?_)
     exact resK_some (hk _ fX)
 · rw [c1] at hk
   repeat (refine gr trivial ?_)
   refine r_calm (x := .h (recE zR)) rfl rfl ?_
   repeat (refine gr trivial ?_)
   refine r_storeW (v := recE zR) (cs' := rcC zR) rfl rfl rfl rfl rfl rfl rfl rfl ?_
   repeat (refine gr trivial ?_)
   exact resK_some (hk _ fX)
end Sm
namespace Sm
open Go
def Adv (f : List UInt8 → Rc × Int × Int) : Prop := ∀ b, b ≠ [] → (f b).2.2 = 0 → 1 ≤ (f b).2.1 ∧ (f b).2.1 ≤ b.length
def scanR (f : List UInt8 → Rc × Int × Int) : Nat → List UInt8 → List Rc × Int × Int := fun n b => match n with
 | 0 => ([], 0, 0)
 | n + 1 => if b = [] then ([], 0, 0) else if (f b).2.2 = 0 then ((f b).1 :: (scanR f n (b.drop (f b).2.1.toNat)).1, (f b).2.1 + (scanR f n (b.drop (f b).2.1.toNat)).2.1, (scanR f n (b.drop (f b).2.1.toNat)).2.2) else ([], 0, (f b).2.2)
theorem scanR_nil (f : List UInt8 → Rc × Int × Int) (n : Nat) : scanR f n [] = ([], 0, 0) := by cases n <;> simp [scanR]
theorem scanR_bad {f : List UInt8 → Rc × Int × Int} {n : Nat} {b : List UInt8} (hb : b ≠ []) (h : (f b).2.2 ≠ 0) : scanR f (n + 1) b = ([], 0, (f b).2.2) := by rw [scanR, if_neg hb, if_neg h]
theorem scanR_ok {f : List UInt8 → Rc × Int × Int} {n : Nat} {b : List UInt8} (hb : b ≠ []) (h : (f b).2.2 = 0) : scanR f (n + 1) b = ((f b).1 :: (scanR f n (b.drop (f b).2.1.toNat)).1, (f b).2.1 + (scanR f n (b.drop (f b).2.1.toNat)).2.1, (scanR f n (b.drop (f b).2.1.toNat)).2.2) := by rw [scanR, if_neg hb, if_pos h]
theorem scanR_fuel {f : List UInt8 → Rc × Int × Int} (ha : Adv f) : ∀ (n m : Nat) (b : List UInt8), b.length ≤ n → b.length ≤ m → scanR f n b = scanR f m b
 | n, m, [], _, _ => by rw [scanR_nil, scanR_nil]
 | n + 1, m + 1, c :: b, hn, hm => by
   by_cases h : (f (c :: b)).2.2 = 0
   · have h1 := ha (c :: b) (by simp) h
     rw [scanR_ok (by simp) h, scanR_ok (by simp) h]
     have hl : ((c :: b).drop (f (c :: b)).2.1.toNat).length ≤ b.length := by simp only [List.length_drop, List.length_cons]; omega
     rw [scanR_fuel ha n m _ (by simp only [List.length_cons] at hn; omega) (by simp only [List.length_cons] at hm; omega)]
   · rw [scanR_bad (by simp) h, scanR_bad (by simp) h]
 | 0, _, c :: b, hn, _ => by simp at hn
 | _, 0, c :: b, _, hm => by simp at hm
def scan (f : List UInt8 → Rc × Int × Int) (b : List UInt8) : List Rc × Int × Int := scanR f b.length b
theorem scan_nil (f : List UInt8 → Rc × Int × Int) : scan f [] = ([], 0, 0) := rfl
theorem scan_bad {f : List UInt8 → Rc × Int × Int} {b : List UInt8} (hb : b ≠ []) (h : (f b).2.2 ≠ 0) : scan f b = ([], 0, (f b).2.2) := by
 cases b with
 | nil => exact absurd rfl hb
 | cons c b => exact scanR_bad (by simp) h
theorem scan_ok {f : List UInt8 → Rc × Int × Int} (ha : Adv f) {b : List UInt8} (hb : b ≠ []) (h : (f b).2.2 = 0) : scan f b = ((f b).1 :: (scan f (b.drop (f b).2.1.toNat)).1, (f b).2.1 + (scan f (b.drop (f b).2.1.toNat)).2.1, (scan f (b.drop (f b).2.1.toNat)).2.2) := by
 cases b with
 | nil => exact absurd rfl hb
 | cons c b =>
   have h1 := ha (c :: b) (by simp) h
   unfold scan
   rw [List.length_cons, scanR_ok (by simp) h]
   rw [scanR_fuel ha b.length _ _ (by simp only [List.length_drop, List.length_cons]; omega) (Nat.le_refl _)]
theorem wOf_pos (c : UInt8) : 1 ≤ wOf c := by
 exact Nat.one_le_two_pow
theorem getV_pos (l : List UInt8) (h : (getV l).2.2 = 0) : 1 ≤ (getV l).2.1 := by
 cases l with
 | nil => simp [getV] at h
 | cons c r =>
   rw [getV] at h ⊢
   split
   · next h2 => rw [if_pos h2] at h; simp at h
   · have := wOf_pos c
     simp only
     omega
theorem shortV_pos (l : List UInt8) (h : (shortV l).2.2 = 0) : 1 ≤ (shortV l).2.1 := by
 unfold shortV at h ⊢
 split
 · next h2 => rw [if_pos h2] at h; simp at h
 · next h2 => rw [if_neg h2] at h; exact getV_pos l h
theorem firstR_adv : Adv firstR := by
 intro b hb h
 have hs := shortV_hb b
 unfold firstR at h ⊢
 cases c1 : (shortV b).2.2 != 0
 · have e1 : (shortV b).2.2 = 0 := by simpa using c1
   have h1 := shortV_pos b e1
   have h2 := shortV_le b e1
   cases c2 : decide (512 < (shortV b).1)
   · cases c3 : decide ((b.length : Int) - (shortV b).2.1 < (shortV b).1)
     · have c3' := of_decide_eq_false c3
       rw [c1, c2, c3] at h
       cases c4 : (openB (partB b)).2 != 0
       · rw [c4] at h
         cases c5 : (readR (openB (partB b)).1).2
         · rw [c5] at h; cases h
         · simp only [cond_true, cond_false]; omega
       · rw [c4] at h; cases h
     · rw [c1, c2, c3] at h; cases h
   · rw [c1, c2] at h; cases h
 · rw [c1] at h
   have : (shortV b).2.2 = 0 := h
   rw [this] at c1; cases c1
attribute [local irreducible] csem rsem dsem seqK blockK normK finK DK RK JK BR G3 resK Spec Tok Fr CV
theorem scanR_spec (L : Linked code) (tk : Tk) (l : List UInt8) (hl : l.length ≤ 1048576) : PureF L 399 [.sl tk 1 (l.map U)] (.tu [.sl .no 37 ((scan firstR l).1.map recE), I (scan firstR l).2.1, I (scan firstR l).2.2]) := by
 intro H K hk
 refine Spec.give ?_
 refine go_spec L code399 rfl ?_
 repeat (refine gr trivial ?_)
 refine c_loop (Spec_SMono L) (fun (q : List Rc × HV × Nat) => [(0, .h (.sl tk 1 (l.map U))), (5, .h q.2.1), (6, .h (I q.2.2))]) (fun _ => []) (fun q X => OG recT H X q.2.1 q.1 ∧ Fr [] H X ∧ q.1.length ≤ q.2.2 ∧ q.2.2 ≤ l.length ∧ scan firstR l = (q.1 ++ (scan firstR (l.drop q.2.2)).1, q.2.2 + (scan firstR (l.drop q.2.2)).2.1, (scan firstR (l.drop q.2.2)).2.2)) (fun q => l.length - q.2.2) ([], .v (.slice none 0 0), 0) ?_ ⟨OG.nil _ _ _, Fr.refl _ _, by simp, by simp, by simp⟩ ?_
 · (refine leM ?_ ?_ ?_ <;> (repeat refine leS trivial ?_) <;> exact leE)
 rintro ⟨out, v, at_⟩ X ⟨hO, fX, h1, h2, hS⟩
 dsimp only at hO h1 h2 hS ⊢
 repeat (refine gr trivial ?_)
 (refine ct trivial ?_ ?_ <;> intro h)
 · have hlt : at_ < l.length := by have := of_decide_eq_true h; omega
   have hne : l.drop at_ ≠ [] := by intro e; have := congrArg List.length e; simp only [List.length_drop, List.length_nil] at this; omega
   have hld : (l.drop at_).length ≤ 1048576 := by simp only [List.length_drop]; omega
   repeat (refine gr trivial ?_)
   refine r_dropB rfl rfl (by omega) fun t2 => ?_
   repeat (refine gr trivial ?_)
   (apply r_call; (focus rfl))
   refine firstR_spec L t2 (l.drop at_) hld X _ fun Y fY => ?_
   repeat (refine gr trivial ?_)
   refine r_storeW (v := recE (firstR (l.drop at_)).1) (cs' := rcC (firstR (l.drop at_)).1) rfl rfl rfl rfl rfl rfl rfl rfl ?_
   repeat (refine gr trivial ?_)
   have hO2 := hO.fr0 fY
   cases c1 : (firstR (l.drop at_)).2.2 != 0
   · have e1 : (firstR (l.drop at_)).2.2 = 0 := by simpa using c1
     have ha := firstR_adv _ hne e1
     rw [scan_ok firstR_adv hne e1] at hS
     simp only [List.length_drop] at ha
     have e4 : (l.drop at_).drop (firstR (l.drop at_)).2.1.toNat = l.drop (at_ + (firstR (l.drop at_)).2.1.toNat) := by rw [List.drop_drop]
     rw [e4] at hS
     generalize hq : firstR (l.drop at_) = q at *
     repeat (refine gr trivial ?_)
     apply r_loadb (v := recE q.1); (focus rfl); (focus rfl); (focus rfl)
     repeat (refine gr trivial ?_)
     refine r_appG (T := recT) (r := [q.1]) hO2 (fX.trans fY) rfl rfl rfl rfl (by simp only [List.length_cons, List.length_nil]; omega) fun v' Z hO' fZ _ => ?_
     repeat (refine gr trivial ?_)
     rw [show (at_ : Int) + q.2.1 = ((at_ + q.2.1.toNat : Nat) : Int) by omega]
     refine k_n (out ++ [q.1], v', at_ + q.2.1.toNat) (by dsimp only; omega) ⟨hO', fZ, by simp only [List.length_append, List.length_cons, List.length_nil]; omega, by dsimp only; omega, ?_⟩ ?_
     · rw [hS]
       simp only [List.append_assoc, List.cons_append, List.nil_append, Prod.mk.injEq, true_and, and_true]
       omega
     (refine leM ?_ ?_ ?_ <;> (repeat refine leS trivial ?_) <;> exact leE)
   · have e1 : (firstR (l.drop at_)).2.2 ≠ 0 := by simpa using c1
     rw [scan_bad hne e1, List.append_nil] at hS
     rw [hS] at hk
     repeat (refine gr trivial ?_)
     refine resK_some (hO2.giveT (fX.trans fY) fun Z fZ => ?_)
     have := hk Z fZ
     rw [Int.add_zero] at this
     exact this
 · have hqe : at_ = l.length := by have := of_decide_eq_false h; omega
   subst hqe
   rw [List.drop_length, scan_nil, List.append_nil] at hS
   rw [hS] at hk
   repeat (refine gr trivial ?_)
   refine resK_some (hO.giveT fX fun Z fZ => ?_)
   have := hk Z fZ
   rw [Int.add_zero] at this
   exact this
end Sm
namespace Sm
open Go
def stC (s : Sta) : List HV := [.sl .no 36 (s.parts.map partE), I s.next]
def stE (s : Sta) : HV := .ag (stC s)
def zP : Pt := ⟨0, [], [], 0, 0⟩
def ptsB : List Pt → List Pt → Bool
 | [], [] => true
 | x :: a, y :: b => ptB x y && ptsB a b
 | _, _ => false
theorem ptsB_len : ∀ (a b : List Pt), ptsB a b = true → a.length = b.length
 | [], [], _ => rfl
 | x :: a, y :: b, h => by
   simp only [ptsB, Bool.and_eq_true] at h
   rw [List.length_cons, List.length_cons, ptsB_len a b h.2]
 | [], y :: b, h => by simp [ptsB] at h
 | x :: a, [], h => by simp [ptsB] at h
theorem ptsB_step {a b : List Pt} {j : Nat} (ha : j < a.length) (hb : j < b.length) : ptsB (a.drop j) (b.drop j) = (ptB a[j] b[j] && ptsB (a.drop (j + 1)) (b.drop (j + 1))) := by
 rw [List.drop_eq_getElem_cons ha, List.drop_eq_getElem_cons hb]; rfl
attribute [local irreducible] csem rsem dsem seqK blockK normK finK DK RK JK BR G3 resK Spec Tok Fr CV
theorem cloneP_spec (L : Linked code) (tk : Tk) (l : List Pt) (hl : l.length ≤ 1048576) (H : Heap) (K : HV → Heap → Prop) (hk : ∀ v X, OG ptT H X v l → Fr [] H X → K v X) : Spec L.P L.ν 402 [.sl tk 36 (l.map partE)] H K := by
 refine go_spec L code402 rfl ?_
 repeat (refine gr trivial ?_)
 refine r_isnil rfl fun t ht => ?_
 cases t
 · repeat (refine gr trivial ?_)
   refine r_appG (T := ptT) (l := []) (r := l) (v := .sl .full 36 []) (.inr (.inl ⟨rfl, rfl⟩)) (Fr.refl _ _) rfl rfl rfl (rdm_sl ptT _ _ l) (by simp only [List.length_nil]; omega) fun v X hO fX _ => ?_
   repeat (refine gr trivial ?_)
   exact resK_some (hk _ _ hO fX)
 · have hl : l = [] := by simpa using ht rfl
   subst hl
   repeat (refine gr trivial ?_)
   exact resK_some (hk _ _ (OG.nil _ _ _) (Fr.refl _ _))
theorem eqP_spec (L : Linked code) (t1 t2 : Tk) (a b : List Pt) (ha : a.length ≤ 1048576) (hb : b.length ≤ 1048576) : PureF L 403 [.sl t1 36 (a.map partE), .sl t2 36 (b.map partE)] (B (ptsB a b)) := by
 intro H K hk
 refine go_spec L code403 rfl ?_
 repeat (refine gr trivial ?_)
 cases c1 : (a.length : Int) != b.length
 · have e1 : a.length = b.length := by
     have : (a.length : Int) = b.length := by simpa using c1
     omega
   repeat (refine gr trivial ?_)
   refine c_loop (Spec_SMono L) (fun (j : Nat) => [(0, .h (.sl t1 36 (a.map partE))), (1, .h (.sl t2 36 (b.map partE))), (12, .h (I a.length)), (13, .h (I j))]) (fun _ => []) (fun j X => Fr [] H X ∧ j ≤ a.length ∧ ptsB a b = ptsB (a.drop j) (b.drop j)) (fun j => a.length - j) 0 ?_ ⟨Fr.refl _ _, by omega, rfl⟩ ?_
   · (refine leM ?_ ?_ ?_ <;> (repeat refine leS trivial ?_) <;> exact leE)
   rintro j X ⟨fX, hj, hS⟩
   repeat (refine gr trivial ?_)
   (refine ct trivial ?_ ?_ <;> intro h)
   · have hlt : j < a.length := by have := of_decide_eq_true h; omega
     have hlt2 : j < b.length := by omega
     rw [ptsB_step hlt hlt2] at hS
     repeat (refine gr trivial ?_)
     refine r_idx (cs := (partE a[j]).cells) rfl rfl rfl (by rw [List.getElem?_map, List.getElem?_eq_getElem hlt]; rfl) rfl ?_
     repeat (refine gr trivial ?_)
     refine r_idx (cs := (partE b[j]).cells) rfl rfl rfl (by rw [List.getElem?_map, List.getElem?_eq_getElem hlt2]; rfl) rfl ?_
     refine r_loadr (v := partE a[j]) rfl rfl ?_
     refine r_loadr (v := partE b[j]) rfl rfl ?_
     refine r_ne rfl rfl (eqv_part a[j] b[j]) rfl ?_
     repeat (refine gr trivial ?_)
     cases c2 : ptB a[j] b[j]
     · rw [c2] at hS
       rw [Bool.not_false]
       repeat (refine gr trivial ?_)
       have := hk X fX
       rw [hS] at this
       exact resK_some this
     · rw [c2] at hS
       rw [Bool.not_true]
       repeat (refine gr trivial ?_)
       refine k_n (j + 1) (by omega) ⟨fX, hlt, by rw [hS, Bool.true_and]⟩ ?_
       (refine leM ?_ ?_ ?_ <;> (repeat refine leS trivial ?_) <;> exact leE)
   · have hqe : j = a.length := by have := of_decide_eq_false h; omega
     subst hqe
     rw [List.drop_length, List.drop_of_length_le (by omega)] at hS
     repeat (refine gr trivial ?_)
     have := hk X fX
     rw [hS] at this
     exact resK_some this
 · have e1 : a.length ≠ b.length := by
     intro h; rw [h] at c1; simp at c1
   have e2 : ptsB a b = false := by
     cases h : ptsB a b
     · rfl
     · exact absurd (ptsB_len a b h) e1
   rw [e2] at hk
   repeat (refine gr trivial ?_)
   exact resK_some (hk _ (Fr.refl _ _))
theorem ixP_spec (L : Linked code) (F : HV) (f : Pt → Bool) (v : HV) (l : List Pt) (hl : l.length ≤ 1048576) (H : Heap) (hG : RG ptT H v l) (hF : ∀ p ∈ l, ∀ X, Fr [] H X → ∀ K, (∀ X', Fr [] X X' → K (B (f p)) X') → CV L F [partE p] X K) (K : HV → Heap → Prop) (hk : ∀ X, Fr [] H X → K (I (firstIdx f l)) X) : Spec L.P L.ν 416 [v, F] H K := by
 refine go_spec L code416 rfl ?_
 repeat (refine gr trivial ?_)
 refine r_lenG rfl hG ?_
 repeat (refine gr trivial ?_)
 refine c_loop (Spec_SMono L) (fun (j : Nat) => [(0, .h v), (1, .h F), (7, .h (I l.length)), (8, .h (I j))]) (fun _ => []) (fun j X => Fr [] H X ∧ ∃ h : j ≤ l.length, ∀ i (hj : i < j), f (l[i]'(by omega)) = false) (fun j => l.length - j) 0 ?_ ⟨Fr.refl _ _, by omega, fun j hj => by omega⟩ ?_
 · (refine leM ?_ ?_ ?_ <;> (repeat refine leS trivial ?_) <;> exact leE)
 rintro j X ⟨fX, hj, hb⟩
 repeat (refine gr trivial ?_)
 (refine ct trivial ?_ ?_ <;> intro h)
 · have hlt : j < l.length := by have := of_decide_eq_true h; omega
   repeat (refine gr trivial ?_)
   refine r_idxG (T := ptT) rfl rfl (hG.fr fX) rfl rfl (List.getElem?_eq_getElem hlt) fun p hp => ?_
   refine r_loadG (v := partE l[j]) rfl hp rfl ?_
   apply r_callF L; (focus rfl); (focus rfl)
   refine hF l[j] (List.getElem_mem hlt) X fX _ fun Y fY => ?_
   repeat (refine gr trivial ?_)
   cases c1 : f l[j]
   · repeat (refine gr trivial ?_)
     refine k_n (j + 1) (by omega) ⟨fX.trans fY, by omega, fun i hi => ?_⟩ ?_
     · rcases Nat.lt_or_ge i j with h3 | h3
       · exact hb i h3
       · have : i = j := by omega
         subst this; exact c1
     · (refine leM ?_ ?_ ?_ <;> (repeat refine leS trivial ?_) <;> exact leE)
   · repeat (refine gr trivial ?_)
     have := hk Y (fX.trans fY)
     rw [firstIdx_some hlt c1 (fun i hi => hb i hi)] at this
     exact resK_some this
 · have hqe : j = l.length := by have := of_decide_eq_false h; omega
   subst hqe
   repeat (refine gr trivial ?_)
   have := hk X fX
   rw [firstIdx_none (fun i hi => hb i hi)] at this
   exact resK_some this
end Sm
namespace Sm
open Go
def fndP (l : List Pt) (p : List UInt8) : Pt × Bool := match l.find? (fun x => x.path == p) with
 | some x => (x, true)
 | none => (zP, false)
def beginS (l : List Pt) (n : Int) (r : Rc) : List Pt × Int × Bool := bif (fndP l r.path).2 || (decide (r.id < n) || decide (64 ≤ (l.length : Int))) then (l, n, false) else (l ++ [⟨r.id, r.path, r.sum, r.size, 0⟩], r.id + 1, true)
theorem buildv_step {z z' : List HV} {off n : Nat} {h : HV} {r : List (Nat × Nat × Option HV)} (h1 : h.ncells = n) (h2 : h.el = true) (h3 : Nat.ble (off + n) z.length = true) (h4 : setL z off h.cells = z') : buildv z ((off, n, some h) :: r) = buildv z' r := by
 rw [buildv, if_pos ⟨h1, h2, Nat.le_of_ble_eq_true h3⟩, h4]
theorem setL_sumP (a : Pt) (s : List UInt8) : setL (ptC a) 2 (sumC s) = ptC ⟨a.id, a.path, s, a.size, a.off⟩ := by
 have h := setL_mid (A := [I a.id, S a.path]) (X := sumC a.sum) (Y := sumC s) (Z := [I a.size, I a.off]) (i := 2) rfl rfl
 exact h
theorem setL_sumR (a : Rc) (s : List UInt8) : setL (rcC a) 3 (sumC s) = rcC ⟨a.kind, a.id, a.path, s, a.size, a.off⟩ := by
 have h := setL_mid (A := [U a.kind, I a.id, S a.path]) (X := sumC a.sum) (Y := sumC s) (Z := [I a.size, I a.off]) (i := 3) rfl rfl
 exact h
section
variable {S' : SpecT} {sl : List (Nat × EV)} {bx : List (Nat × List HV)} {H : Heap} {K : Env → Heap → Prop} {os : List SOper} {d : Nat}
theorem r_buildP {z : List HV} {x0 x1 x2 x3 : Opd} {id size : Int} {p s : List UInt8} (hz : z = ptC zP) (h0 : (M sl bx).hv x0 = some (I id)) (h1 : (M sl bx).hv x1 = some (S p)) (h2 : (M sl bx).hv x2 = some (.ag (sumC s))) (h3 : (M sl bx).hv x3 = some (I size))
   (h : rsem S' os (M ((d, .h (partE ⟨id, p, s, size, 0⟩)) :: sl) bx) H K) : rsem S' (⟨some d, .build z [(0, 1, x0), (1, 1, x1), (2, 32, x2), (34, 1, x3)], none⟩ :: os) (M sl bx) H K := by
 subst hz
 refine r_calm rfl ?_ h
 simp only [SOp.ev, List.map_cons, List.map_nil, h0, h1, h2, h3]
 have e : buildv (ptC zP) [(0, 1, some (I id)), (1, 1, some (S p)), (2, 32, some (HV.ag (sumC s))), (34, 1, some (I size))] = some (ptC ⟨id, p, s, size, 0⟩) :=
   (buildv_step (z := ptC zP) (z' := ptC ⟨id, [], [], 0, 0⟩) (h := I id) rfl rfl rfl rfl).trans <| (buildv_step (z' := ptC ⟨id, p, [], 0, 0⟩) (h := S p) rfl rfl rfl rfl).trans <| (buildv_step (z' := ptC ⟨id, p, s, 0, 0⟩) (h := .ag (sumC s)) rfl rfl rfl (setL_sumP ⟨id, p, [], 0, 0⟩ s)).trans <| (buildv_step (z' := ptC ⟨id, p, s, size, 0⟩) (h := I size) rfl rfl rfl rfl).trans rfl
 rw [e]; rfl
theorem r_buildR {z : List HV} {x0 x1 x2 x3 x4 : Opd} {k : UInt8} {id size : Int} {p s : List UInt8} (hz : z = rcC zR) (hk : (M sl bx).hv x0 = some (U k)) (h0 : (M sl bx).hv x1 = some (I id)) (h1 : (M sl bx).hv x2 = some (S p)) (h2 : (M sl bx).hv x3 = some (.ag (sumC s))) (h3 : (M sl bx).hv x4 = some (I size))
   (h : rsem S' os (M ((d, .h (recE ⟨k, id, p, s, size, 0⟩)) :: sl) bx) H K) : rsem S' (⟨some d, .build z [(0, 1, x0), (1, 1, x1), (2, 1, x2), (3, 32, x3), (35, 1, x4)], none⟩ :: os) (M sl bx) H K := by
 subst hz
 refine r_calm rfl ?_ h
 simp only [SOp.ev, List.map_cons, List.map_nil, hk, h0, h1, h2, h3]
 have e : buildv (rcC zR) [(0, 1, some (U k)), (1, 1, some (I id)), (2, 1, some (S p)), (3, 32, some (HV.ag (sumC s))), (35, 1, some (I size))] = some (rcC ⟨k, id, p, s, size, 0⟩) :=
   (buildv_step (z := rcC zR) (z' := rcC ⟨k, 0, [], [], 0, 0⟩) (h := U k) rfl rfl rfl rfl).trans <| (buildv_step (z' := rcC ⟨k, id, [], [], 0, 0⟩) (h := I id) rfl rfl rfl rfl).trans <| (buildv_step (z' := rcC ⟨k, id, p, [], 0, 0⟩) (h := S p) rfl rfl rfl rfl).trans <| (buildv_step (z' := rcC ⟨k, id, p, s, 0, 0⟩) (h := .ag (sumC s)) rfl rfl rfl (setL_sumR ⟨k, id, p, [], 0, 0⟩ s)).trans <| (buildv_step (z' := rcC ⟨k, id, p, s, size, 0⟩) (h := I size) rfl rfl rfl rfl).trans rfl
 rw [e]; rfl
end
attribute [local irreducible] csem rsem dsem seqK blockK normK finK DK RK JK BR G3 resK Spec Tok Fr CV
theorem jown_spec (L : Linked code) (tk : Tk) (l : List Pt) (n : Int) (hl : l.length ≤ 1048576) (H : Heap) (K : HV → Heap → Prop) (hk : ∀ v X, OG ptT H X v l → Fr [] H X → K (.ag [v, I n]) X) : Spec L.P L.ν 414 [.ag [.sl tk 36 (l.map partE), I n]] H K := by
 refine go_spec L code414 rfl ?_
 repeat (refine gr trivial ?_)
 (apply r_call; (focus rfl))
 refine cloneP_spec L tk l hl H _ fun v X hO fX => ?_
 repeat (refine gr trivial ?_)
 refine r_storeb (cs' := [v, I n]) rfl hO.one hO.el rfl rfl rfl (by simp only [setL, hO.cel]; rfl) ?_
 repeat (refine gr trivial ?_)
 apply r_loadb (v := .ag [v, I n]); (focus rfl); (focus rfl); (focus rfl)
 repeat (refine gr trivial ?_)
 refine r_storeW (v := .ag [v, I n]) (cs' := [v, I n]) rfl rfl (hO.el2 _) rfl rfl rfl rfl rfl ?_
 repeat (refine gr trivial ?_)
 exact resK_some (hk v X hO fX)
theorem jfind1_spec (L : Linked code) (x : Pt) (p : List UInt8) (b : Nat) (H : Heap) (hb : H b = some (.obj [S p])) (K : HV → Heap → Prop) (hk : K (B (x.path == p)) H) : Spec L.P L.ν 449 [partE x, ptr b] H K := by
 refine go_spec L code449 rfl ?_
 repeat (refine gr trivial ?_)
 refine r_box (v := partE x) (cs := ptC x) rfl rfl rfl rfl rfl ?_
 repeat (refine gr trivial ?_)
 exact resK_some hk
theorem jstep1_spec (L : Linked code) (x : Pt) (r : Rc) (b : Nat) (H : Heap) (hb : H b = some (.obj (rcC r))) (K : HV → Heap → Prop) (hk : K (B (x.id == r.id)) H) : Spec L.P L.ν 415 [partE x, ptr b] H K := by
 refine go_spec L code415 rfl ?_
 repeat (refine gr trivial ?_)
 refine r_box (v := partE x) (cs := ptC x) rfl rfl rfl rfl rfl ?_
 repeat (refine gr trivial ?_)
 exact resK_some hk
theorem jfind_spec (L : Linked code) (v : HV) (l : List Pt) (n : Int) (p : List UInt8) (hl : l.length ≤ 1048576) (H : Heap) (hG : RG ptT H v l) (K : HV → Heap → Prop) (hk : ∀ X, Fr [] H X → K (.tu [partE (fndP l p).1, B (fndP l p).2]) X) : Spec L.P L.ν 433 [.ag [v, I n], S p] H K := by
 refine go_spec L code433 rfl ?_
 repeat (refine gr trivial ?_)
 refine r_box (v := .ag [v, I n]) (cs := [v, I n]) rfl rfl rfl (hG.el2 _) rfl ?_
 repeat (refine gr trivial ?_)
 refine r_boxX (v := S p) (cs := [S p]) rfl rfl rfl rfl fun b X hb hX fX sX => ?_
 repeat (refine gr trivial ?_)
 (apply r_call; (focus rfl))
 refine ixP_spec L (.fn 449 [ptr b]) (fun x => x.path == p) v l hl X (hG.fr fX) (fun x hx Y fY K' hK' => ?_) _ fun Y fY => ?_
 · unfold CV
   exact jfind1_spec L x p b Y (fY.get (by simp) hX) _ (hK' Y (Fr.refl _ _))
 have fHY := fX.trans fY
 repeat (refine gr trivial ?_)
 rcases firstIdx_cases (fun (x : Pt) => x.path == p) l with ⟨e1, e2⟩ | ⟨i, hi, e1, e2, _⟩
 · have e3 : fndP l p = (zP, false) := by unfold fndP; rw [e2]
   rw [e3] at hk
   rw [e1, show decide ((-1 : Int) < 0) = true from rfl]
   repeat (refine gr trivial ?_)
   refine r_calm (x := .h (partE zP)) rfl rfl ?_
   refine r_storeW (v := partE zP) (cs' := ptC zP) rfl rfl rfl rfl rfl rfl rfl rfl ?_
   repeat (refine gr trivial ?_)
   exact resK_some (hk Y fHY)
 · have e3 : fndP l p = (l[i], true) := by unfold fndP; rw [e2]
   rw [e3] at hk
   have e4 : decide ((i : Int) < 0) = false := decide_eq_false (by omega)
   rw [e1, e4]
   repeat (refine gr trivial ?_)
   refine r_idxG (T := ptT) rfl rfl (hG.fr fHY) rfl rfl (List.getElem?_eq_getElem hi) fun q hq => ?_
   refine r_loadG (v := partE l[i]) rfl hq rfl ?_
   refine r_storeW (v := partE l[i]) (cs' := ptC l[i]) rfl rfl rfl rfl rfl rfl rfl rfl ?_
   repeat (refine gr trivial ?_)
   exact resK_some (hk Y fHY)
theorem jbegins_spec (L : Linked code) (v : HV) (l : List Pt) (n : Int) (r : Rc) (hl : l.length ≤ 1048576) (hid : r.id ≤ 1099511627776) (hid0 : 0 ≤ r.id) (H0 H : Heap) (hG : OG ptT H0 H v l) (f0 : Fr [] H0 H) (K : HV → Heap → Prop) (hk : ∀ v' X, OG ptT H0 X v' (beginS l n r).1 → Fr [] H0 X → K (.tu [.ag [v', I (beginS l n r).2.1], B (beginS l n r).2.2]) X) : Spec L.P L.ν 417 [.ag [v, I n], recE r] H K := by
 refine go_spec L code417 rfl ?_
 unfold beginS at hk
 repeat (refine gr trivial ?_)
 refine r_box (v := .ag [v, I n]) (cs := [v, I n]) rfl rfl rfl (hG.el2 _) rfl ?_
 repeat (refine gr trivial ?_)
 refine r_box (v := recE r) (cs := rcC r) rfl rfl rfl rfl rfl ?_
 repeat (refine gr trivial ?_)
 apply r_loadb (v := .ag [v, I n]); (focus rfl); (focus rfl); (focus rfl)
 repeat (refine gr trivial ?_)
 (apply r_call; (focus rfl))
 refine jfind_spec L v l n r.path hl H hG.rg _ fun X fX => ?_
 have hO := hG.fr0 fX
 have f1 := f0.trans fX
 repeat (refine gr trivial ?_)
 refine r_storeW (v := partE (fndP l r.path).1) (cs' := ptC (fndP l r.path).1) rfl rfl rfl rfl rfl rfl rfl rfl ?_
 repeat (refine gr trivial ?_)
 cases c1 : (fndP l r.path).2
 case true =>
   rw [c1] at hk
   repeat (refine gr trivial ?_)
   apply r_loadb (v := .ag [v, I n]); (focus rfl); (focus rfl); (focus rfl)
   refine r_storeW (v := .ag [v, I n]) (cs' := [v, I n]) rfl rfl (hO.el2 _) rfl rfl rfl rfl rfl ?_
   repeat (refine gr trivial ?_)
   exact resK_some (hk v X hO f1)
 rw [c1] at hk
 repeat (refine gr trivial ?_)
 cases c2 : decide (r.id < n)
 case true =>
   rw [c2] at hk
   repeat (refine gr trivial ?_)
   apply r_loadb (v := .ag [v, I n]); (focus rfl); (focus rfl); (focus rfl)
   refine r_storeW (v := .ag [v, I n]) (cs' := [v, I n]) rfl rfl (hO.el2 _) rfl rfl rfl rfl rfl ?_
   repeat (refine gr trivial ?_)
   exact resK_some (hk v X hO f1)
 rw [c2] at hk
 repeat (refine gr trivial ?_)
 refine r_lenG rfl hO.rg ?_
 repeat (refine gr trivial ?_)
 cases c3 : decide (64 ≤ (l.length : Int))
 case true =>
   rw [c3] at hk
   repeat (refine gr trivial ?_)
   apply r_loadb (v := .ag [v, I n]); (focus rfl); (focus rfl); (focus rfl)
   refine r_storeW (v := .ag [v, I n]) (cs' := [v, I n]) rfl rfl (hO.el2 _) rfl rfl rfl rfl rfl ?_
   repeat (refine gr trivial ?_)
   exact resK_some (hk v X hO f1)
 rw [c3] at hk
 have c3 := of_decide_eq_false c3
 repeat (refine gr trivial ?_)
 apply r_loadb (v := .ag (sumC r.sum)); (focus rfl); (focus rfl); (focus rfl)
 repeat (refine gr trivial ?_)
 refine r_buildP (s := r.sum) rfl rfl rfl rfl rfl ?_
 repeat (refine gr trivial ?_)
 refine r_appG (T := ptT) (r := [⟨r.id, r.path, r.sum, r.size, 0⟩]) hO f1 rfl rfl rfl rfl (by simp only [List.length_cons, List.length_nil]; omega) fun v' Z hO' fZ _ => ?_
 repeat (refine gr trivial ?_)
 refine r_storeb (cs' := [v', I n]) rfl hO'.one hO'.el rfl rfl rfl (by simp only [setL, hO'.cel]; rfl) ?_
 repeat (refine gr trivial ?_)
 refine r_storeb (cs' := [v', I (r.id + 1)]) rfl rfl rfl rfl rfl rfl rfl ?_
 repeat (refine gr trivial ?_)
 apply r_loadb (v := .ag [v', I (r.id + 1)]); (focus rfl); (focus rfl); (focus rfl)
 refine r_storeW (v := .ag [v', I (r.id + 1)]) (cs' := [v', I (r.id + 1)]) rfl rfl (hO'.el2 _) rfl rfl rfl rfl rfl ?_
 repeat (refine gr trivial ?_)
 exact resK_some (hk v' Z hO' fZ)
end Sm
namespace Sm
open Go
theorem OG.giveTA {α : Type} {T : Elt α} {H X : Heap} {v : HV} {l : List α} {n : Int} {zs' : List HV} (h : OG T H X v l) (f : Fr [] H X) {Q : HV → Heap → Prop} (hk : ∀ Y, Fr [] H Y → Q (.tu (.ag [.sl .no T.sz (l.map T.f), I n] :: zs')) Y) :
   Q (.tu (.ag [v, I n] :: zs')) X ∨ (∃ r', Weak (.tu (.ag [v, I n] :: zs')) r' ∧ Q r' X) ∨ ∃ b cs r', X b = some (.obj cs) ∧ FW b cs (.tu (.ag [v, I n] :: zs')) r' ∧ Q r' (X.upd b none) := by
 have wk : ∀ {a b : HV}, b.one = true → Weak a b → Weak (.tu (.ag [a, I n] :: zs')) (.tu (.ag [b, I n] :: zs')) := fun {a b} h1 hw => Weak.tu ⟨Weak.ag ⟨hw, Weak.refl _, trivial⟩ (by simp [h1]; rfl), WeakL.refl _⟩
 rcases h with ⟨rfl, rfl⟩ | ⟨rfl, rfl⟩ | ⟨b, c, zs, rfl, hb, hX, hc, hlc, hm⟩
 · exact .inr (.inl ⟨_, wk rfl (Weak.nil' T.sz), hk X f⟩)
 · exact .inr (.inl ⟨_, wk rfl (Weak.drop _ _ _), hk X f⟩)
 · refine .inr (.inr ⟨b, _, .tu (.ag [.sl .no T.sz (l.map T.f), I n] :: zs'), hX, FW.tu ⟨FW.ag ⟨FW.slice ?_ ?_ (by simp) hlc hm (elG T l) (ncG T l), FW.refl _ _ _, trivial⟩ rfl, FWL.refl _ _ _⟩, hk _ (f.give hb)⟩)
   · rw [List.take_left' (cellsG_len T l)]; rfl
   · rw [List.length_append, cellsG_len]; omega
theorem OG.giveA {α : Type} {T : Elt α} {H X : Heap} {v : HV} {l : List α} {n : Int} (h : OG T H X v l) (f : Fr [] H X) {Q : HV → Heap → Prop} (hk : ∀ Y, Fr [] H Y → Q (.ag [.sl .no T.sz (l.map T.f), I n]) Y) :
   Q (.ag [v, I n]) X ∨ (∃ r', Weak (.ag [v, I n]) r' ∧ Q r' X) ∨ ∃ b cs r', X b = some (.obj cs) ∧ FW b cs (.ag [v, I n]) r' ∧ Q r' (X.upd b none) := by
 have wk : ∀ {a b : HV}, b.one = true → Weak a b → Weak (.ag [a, I n]) (.ag [b, I n]) := fun {a b} h1 hw => Weak.ag ⟨hw, Weak.refl _, trivial⟩ (by simp [h1]; rfl)
 rcases h with ⟨rfl, rfl⟩ | ⟨rfl, rfl⟩ | ⟨b, c, zs, rfl, hb, hX, hc, hlc, hm⟩
 · exact .inr (.inl ⟨_, wk rfl (Weak.nil' T.sz), hk X f⟩)
 · exact .inr (.inl ⟨_, wk rfl (Weak.drop _ _ _), hk X f⟩)
 · refine .inr (.inr ⟨b, _, .ag [.sl .no T.sz (l.map T.f), I n], hX, FW.ag ⟨FW.slice ?_ ?_ (by simp) hlc hm (elG T l) (ncG T l), FW.refl _ _ _, trivial⟩ rfl, hk _ (f.give hb)⟩)
   · rw [List.take_left' (cellsG_len T l)]; rfl
   · rw [List.length_append, cellsG_len]; omega
theorem cellsG_split {α : Type} (T : Elt α) {l : List α} {i : Nat} (h : i < l.length) : cellsG T l = cellsG T (l.take i) ++ (T.f l[i]).cells ++ cellsG T (l.drop (i + 1)) := by
 have h1 := List.take_append_drop i l
 rw [List.drop_eq_getElem_cons h] at h1
 have h2 := congrArg (cellsG T) h1
 rw [← h2, cellsG_app, List.append_assoc]
 rfl
theorem rdm_objG {H : Heap} {b off m c sz : Nat} {cs : List HV} (hb : H b = some (.obj cs)) (h : off + m * sz ≤ cs.length) : rdm H sz (.v (.slice (some ⟨b, off, none⟩) m c)) = some (m, (cs.drop off).take (m * sz)) := by
 simp only [rdm, hb]
 rw [if_pos h]
attribute [local irreducible] csem rsem dsem seqK blockK normK finK DK RK JK BR G3 resK Spec Tok Fr CV
theorem deleteP_spec (L : Linked code) (b n c i : Nat) (l : List Pt) (zs : List HV) (H : Heap) (hb : H b = some (.obj (cellsG ptT l ++ zs))) (hz : l.length * 36 + zs.length = c * 36) (hln : l.length = n) (hnc : n ≤ c) (hcm : c ≤ maxLen) (hn : n ≤ 1048576) (hi : i < n) (K : HV → Heap → Prop)
   (hk : ∀ X zs', X b = some (.obj (cellsG ptT (l.take i ++ l.drop (i + 1)) ++ zs')) → (l.take i ++ l.drop (i + 1)).length * 36 + zs'.length = c * 36 → Fr [b] H X → K (.v (.slice (some ⟨b, 0, none⟩) (n - 1) c)) X) :
   Spec L.P L.ν 418 [.v (.slice (some ⟨b, 0, none⟩) n c), I i, I (i + 1 : Nat)] H K := by
 have hl := hln
 have hcl : (cellsG ptT l).length = l.length * 36 := cellsG_len ptT l
 have htot : (cellsG ptT l ++ zs).length = c * 36 := by rw [List.length_append, hcl]; omega
 refine go_spec L code418 rfl ?_
 repeat (refine gr trivial ?_)
 apply r_slcO; (focus rfl); (focus rfl); (focus rfl); (focus rfl); (focus omega)
 repeat (refine gr trivial ?_)
 have c1 : ((i : Int) == ((i + 1 : Nat) : Int)) = false := by simp only [beq_eq_false_iff_ne, ne_eq]; omega
 rw [c1]
 repeat (refine gr trivial ?_)
 apply r_slcO0; (focus rfl); (focus rfl); (focus omega)
 repeat (refine gr trivial ?_)
 apply r_slcO; (focus rfl); (focus rfl); (focus rfl); (focus rfl); (focus omega)
 simp only [Int.toNat_natCast]
 have hA : (cellsG ptT (l.take i)).length = i * 36 := by rw [cellsG_len, List.length_take]; congr 1; omega
 have hB : (cellsG ptT (l.drop (i + 1))).length = (n - (i + 1)) * 36 := by rw [cellsG_len, List.length_drop, hl]; rfl
 have hX3 : (partE (l[i]'(by omega))).cells.length = 36 := rfl
 have hAB : cellsG ptT l = cellsG ptT (l.take i) ++ (partE (l[i]'(by omega))).cells ++ cellsG ptT (l.drop (i + 1)) := cellsG_split ptT (by omega)
 have hfin : cellsG ptT (l.take i ++ l.drop (i + 1)) = cellsG ptT (l.take i) ++ cellsG ptT (l.drop (i + 1)) := cellsG_app _ _ _
 have hlen2 : (l.take i ++ l.drop (i + 1)).length = n - 1 := by rw [List.length_append, List.length_take, List.length_drop]; omega
 generalize cellsG ptT (l.take i) = A at hA hAB hfin
 generalize cellsG ptT (l.drop (i + 1)) = Bc at hB hAB hfin
 generalize (partE (l[i]'(by omega))).cells = X3 at hX3 hAB
 rw [hAB] at hb htot
 have htl : A.length + X3.length + Bc.length + zs.length = c * 36 := by simp only [List.length_append] at htot; exact htot
 generalize ho : (if (c : Int) = ((i + 1 : Nat) : Int) then 0 else 0 + (i + 1) * 36) = off
 have hol : off + (n - (i + 1)) * 36 ≤ (A ++ X3 ++ Bc ++ zs).length := by rw [htot, ← ho]; split <;> omega
 have hsrc : ((A ++ X3 ++ Bc ++ zs).drop off).take ((n - (i + 1)) * 36) = Bc := by
   rw [← ho]; split
   · have e0 : n - (i + 1) = 0 := by omega
     have e1 : Bc = [] := List.length_eq_zero_iff.mp (by omega)
     rw [e0, e1]; simp
   · rw [Nat.zero_add, List.append_assoc, List.drop_left' (by rw [List.length_append]; omega), List.take_left' hB]
 apply r_appO; (focus rfl); (focus rfl); (focus exact rdm_objG hb hol); (focus exact hb); (focus omega); (focus omega); (focus omega); (focus skip)
 case hk2 => intro hc; omega
 intro _ Y hY fY
 have e2 : i + (n - (i + 1)) = n - 1 := by omega
 rw [hsrc, Nat.zero_add] at hY
 rw [e2]
 have hRl : ((X3 ++ Bc).drop Bc.length).length = 36 := by rw [List.length_drop, List.length_append]; omega
 have hY' : Y b = some (.obj (A ++ Bc ++ (X3 ++ Bc).drop Bc.length ++ zs)) := by
   have e3 : A ++ X3 ++ Bc ++ zs = A ++ (X3 ++ Bc).take Bc.length ++ ((X3 ++ Bc).drop Bc.length ++ zs) := by
     rw [← List.append_assoc, List.append_assoc A (List.take _ _), List.take_append_drop]; simp only [List.append_assoc]
   rw [hY, e3, setL_mid hA (by rw [List.length_take, List.length_append]; omega)]
   simp only [List.append_assoc]
 generalize (X3 ++ Bc).drop Bc.length = R at hRl hY'
 repeat (refine gr trivial ?_)
 apply r_slcLH (a := n - 1) (e := n); (focus rfl); (focus rfl); (focus rfl); (focus rfl); (focus rfl); (focus omega); (focus omega); (focus omega)
 apply r_clrO; (focus rfl); (focus exact hY'); (focus (simp only [List.length_append, hRl]; omega)); (focus rfl)
 intro Z hZ fZ
 repeat (refine gr trivial ?_)
 have hrep : (List.replicate (n - (n - 1)) (ptC zP)).flatten = ptC zP := by rw [show n - (n - 1) = 1 by omega]; simp
 have hzl : (ptC zP).length = 36 := rfl
 refine resK_some (hk Z (ptC zP ++ zs) ?_ ?_ (fY.trans fZ))
 · have hZ' : Z b = some (.obj (setL (A ++ Bc ++ R ++ zs) (0 + (n - 1) * 36) (List.replicate (n - (n - 1)) (ptC zP)).flatten)) := hZ
   have h9 : setL (A ++ Bc ++ R ++ zs) (0 + (n - 1) * 36) (ptC zP) = A ++ Bc ++ ptC zP ++ zs := setL_mid (A := A ++ Bc) (X := R) (Y := ptC zP) (by rw [List.length_append]; omega) (by rw [hRl, hzl])
   rw [hZ', hrep, h9, hfin, List.append_assoc (A ++ Bc)]
 · rw [hlen2, List.length_append, hzl]; omega
def setOff (l : List Pt) (i : Nat) (o : Int) : List Pt := l.set i ⟨(l.getD i zP).id, (l.getD i zP).path, (l.getD i zP).sum, (l.getD i zP).size, o⟩
theorem cellsP_setoff {l : List Pt} {i : Nat} (h : i < l.length) (o : Int) (zs : List HV) : setL (cellsG ptT l ++ zs) (i * 36 + 35) [I o] = cellsG ptT (setOff l i o) ++ zs := by
 have hg : l.getD i zP = l[i] := by simp [List.getD, h]
 have hA : (cellsG ptT (l.take i)).length = i * 36 := by rw [cellsG_len, List.length_take]; congr 1; omega
 have e1 : cellsG ptT l = cellsG ptT (l.take i) ++ ((ptC l[i]).take 35 ++ [I l[i].off]) ++ cellsG ptT (l.drop (i + 1)) := cellsG_split ptT h
 have h2 : i < (setOff l i o).length := by simpa [setOff] using h
 have e2 : cellsG ptT (setOff l i o) = cellsG ptT (l.take i) ++ ((ptC l[i]).take 35 ++ [I o]) ++ cellsG ptT (l.drop (i + 1)) := by
   rw [cellsG_split ptT h2]
   have e3 : (setOff l i o).take i = l.take i := by simp [setOff, List.take_set_of_le]
   have e4 : (setOff l i o).drop (i + 1) = l.drop (i + 1) := by simp [setOff, List.drop_set_of_lt]
   have e5 : (setOff l i o)[i] = ⟨l[i].id, l[i].path, l[i].sum, l[i].size, o⟩ := by simp only [setOff, hg, List.getElem_set_self]
   rw [e3, e4, e5]
   rfl
 have e6 : cellsG ptT l ++ zs = (cellsG ptT (l.take i) ++ (ptC l[i]).take 35) ++ [I l[i].off] ++ (cellsG ptT (l.drop (i + 1)) ++ zs) := by rw [e1]; simp only [List.append_assoc]
 have hP : ((ptC l[i]).take 35).length = 35 := rfl
 rw [e6, setL_mid (A := cellsG ptT (l.take i) ++ (ptC l[i]).take 35) (X := [I l[i].off]) (Y := [I o]) (by rw [List.length_append, hA, hP]) rfl, e2]
 simp only [List.append_assoc]
def ixI (s : Sta) (r : Rc) : Int := firstIdx (fun x => x.id == r.id) s.parts
def atP (s : Sta) (r : Rc) : Pt := s.parts.getD (ixI s r).toNat zP
def stepS (s : Sta) (r : Rc) : Sta × Bool :=
 bif (r.kind.toNat : Int) == 0 then (⟨(beginS s.parts s.next r).1, (beginS s.parts s.next r).2.1⟩, (beginS s.parts s.next r).2.2)
 else bif (r.kind.toNat : Int) == 4 then (bif decide (r.id < s.next) then (s, false) else (⟨s.parts, r.id + 1⟩, true))
 else bif (r.kind.toNat : Int) == 1 then (bif decide (ixI s r < 0) then (s, false) else bif decide (r.off < (atP s r).off) then (s, false) else bif decide ((atP s r).size < r.off) then (s, false) else (⟨setOff s.parts (ixI s r).toNat r.off, s.next⟩, true))
 else bif (r.kind.toNat : Int) == 2 || (r.kind.toNat : Int) == 3 then (bif decide (ixI s r < 0) then (s, false) else (⟨s.parts.take (ixI s r).toNat ++ s.parts.drop ((ixI s r).toNat + 1), s.next⟩, true))
 else (s, false)
theorem ixI_lt {s : Sta} {r : Rc} (h : decide (ixI s r < 0) = false) : ∃ i : Nat, ∃ hi : i < s.parts.length, ixI s r = i ∧ atP s r = s.parts[i] := by
 have h := of_decide_eq_false h
 rcases firstIdx_cases (fun (x : Pt) => x.id == r.id) s.parts with ⟨e1, e2⟩ | ⟨i, hi, e1, e2⟩
 · unfold ixI at h; rw [e1] at h; omega
 · have e3 : ixI s r = i := e1
   refine ⟨i, hi, e3, ?_⟩
   unfold atP
   rw [e3, Int.toNat_natCast]
   simp [List.getD, hi]
theorem OG.obj {α : Type} {T : Elt α} {H0 X : Heap} {v : HV} {l : List α} (h : OG T H0 X v l) (hl : l ≠ []) : ∃ b c zs, v = .v (.slice (some ⟨b, 0, none⟩) l.length c) ∧ H0 b = none ∧ X b = some (.obj (cellsG T l ++ zs)) ∧ l.length * T.sz + zs.length = c * T.sz ∧ l.length ≤ c ∧ c ≤ maxLen := by
 rcases h with ⟨rfl, rfl⟩ | ⟨rfl, rfl⟩ | h
 · exact absurd rfl hl
 · exact absurd rfl hl
 · exact h
theorem jstep_spec (L : Linked code) (s : Sta) (r : Rc) (hl : s.parts.length ≤ 1048576) (h0 : 0 ≤ r.id) (h1 : r.id ≤ 1099511627776) : PureF L 385 [stE s, recE r] (.tu [stE (stepS s r).1, B (stepS s r).2]) := by
 intro H K hk
 refine Spec.give ?_
 refine go_spec L code385 rfl ?_
 unfold stepS at hk
 repeat (refine gr trivial ?_)
 refine r_box (v := stE s) (cs := stC s) rfl rfl rfl rfl rfl ?_
 repeat (refine gr trivial ?_)
 refine r_boxX (v := recE r) (cs := rcC r) rfl rfl rfl rfl fun b X hb hX fX sX => ?_
 repeat (refine gr trivial ?_)
 apply r_loadb (v := stE s); (focus rfl); (focus rfl); (focus rfl)
 repeat (refine gr trivial ?_)
 (apply r_call; (focus rfl))
 refine jown_spec L .no s.parts s.next hl X _ fun v Y hO fY => ?_
 have hY : Y b = some (.obj (rcC r)) := fY.get (by simp) hX
 repeat (refine gr trivial ?_)
 refine r_storeW (v := .ag [v, I s.next]) (cs' := [v, I s.next]) rfl rfl (hO.el2 _) rfl rfl rfl rfl rfl ?_
 repeat (refine gr trivial ?_)
 (apply r_call; (focus rfl))
 refine ixP_spec L (.fn 415 [ptr b]) (fun x => x.id == r.id) v s.parts hl Y hO.rg (fun x hx Z fZ K' hK' => ?_) _ fun Z fZ => ?_
 · unfold CV
   exact jstep1_spec L x r b Z (fZ.get (by simp) hY) _ (hK' Z (Fr.refl _ _))
 have hZ : Z b = some (.obj (rcC r)) := fZ.get (by simp) hY
 have hO := (hO.up fX).fr0 fZ
 have fHZ := fX.trans (fY.trans fZ)
 rw [show firstIdx (fun x => x.id == r.id) s.parts = ixI s r from rfl]
 repeat (refine gr trivial ?_)
 cases c1 : (r.kind.toNat : Int) == 0
 case true =>
   rw [c1] at hk
   repeat (refine gr trivial ?_)
   apply r_loadb (v := .ag [v, I s.next]); (focus rfl); (focus rfl); (focus rfl)
   apply r_load (v := recE r); (focus rfl); (focus exact hZ); (focus rfl)
   (apply r_call; (focus rfl))
   refine jbegins_spec L v s.parts s.next r hl h1 h0 H Z hO fHZ _ fun v' W hO' fW => ?_
   repeat (refine gr trivial ?_)
   refine r_storeW (v := .ag [v', I (beginS s.parts s.next r).2.1]) (cs' := [v', I (beginS s.parts s.next r).2.1]) rfl rfl (hO'.el2 _) rfl rfl rfl rfl rfl ?_
   repeat (refine gr trivial ?_)
   exact resK_some (hO'.giveTA fW fun Y fY => hk Y fY)
 rw [c1] at hk
 repeat (refine gr trivial ?_)
 cases c2 : (r.kind.toNat : Int) == 4
 case true =>
   rw [c2] at hk
   repeat (refine gr trivial ?_)
   cases c3 : decide (r.id < s.next)
   case true =>
     rw [c3] at hk
     repeat (refine gr trivial ?_)
     apply r_loadb (v := .ag [v, I s.next]); (focus rfl); (focus rfl); (focus rfl)
     refine r_storeW (v := .ag [v, I s.next]) (cs' := [v, I s.next]) rfl rfl (hO.el2 _) rfl rfl rfl rfl rfl ?_
     repeat (refine gr trivial ?_)
     exact resK_some (hO.giveTA fHZ fun Y fY => hk Y fY)
   rw [c3] at hk
   repeat (refine gr trivial ?_)
   refine r_storeb (cs' := [v, I (r.id + 1)]) rfl rfl rfl rfl rfl rfl rfl ?_
   repeat (refine gr trivial ?_)
   apply r_loadb (v := .ag [v, I (r.id + 1)]); (focus rfl); (focus rfl); (focus rfl)
   refine r_storeW (v := .ag [v, I (r.id + 1)]) (cs' := [v, I (r.id + 1)]) rfl rfl (hO.el2 _) rfl rfl rfl rfl rfl ?_
   repeat (refine gr trivial ?_)
   exact resK_some (hO.giveTA fHZ fun Y fY => hk Y fY)
 rw [c2] at hk
 repeat (refine gr trivial ?_)
 cases c3 : (r.kind.toNat : Int) == 1
 case true =>
   rw [c3] at hk
   repeat (refine gr trivial ?_)
   cases c4 : decide (ixI s r < 0)
   case true =>
     rw [c4] at hk
     repeat (refine gr trivial ?_)
     apply r_loadb (v := .ag [v, I s.next]); (focus rfl); (focus rfl); (focus rfl)
     refine r_storeW (v := .ag [v, I s.next]) (cs' := [v, I s.next]) rfl rfl (hO.el2 _) rfl rfl rfl rfl rfl ?_
     repeat (refine gr trivial ?_)
     exact resK_some (hO.giveTA fHZ fun Y fY => hk Y fY)
   rw [c4] at hk
   obtain ⟨i, hi, e1, e2⟩ := ixI_lt c4
   rw [e2] at hk
   have hi? : s.parts[i]? = some s.parts[i] := List.getElem?_eq_getElem hi
   repeat (refine gr trivial ?_)
   refine r_idxG (T := ptT) rfl rfl hO.rg rfl e1 hi? fun p hp => ?_
   repeat (refine gr trivial ?_)
   refine r_fldG rfl hp (Nat.le_of_ble_eq_true rfl) fun p2 hp2 => ?_
   repeat (refine gr trivial ?_)
   refine r_loadG (v := I s.parts[i].off) rfl hp2 rfl ?_
   repeat (refine gr trivial ?_)
   cases c5 : decide (r.off < s.parts[i].off)
   case true =>
     rw [c5] at hk
     repeat (refine gr trivial ?_)
     apply r_loadb (v := .ag [v, I s.next]); (focus rfl); (focus rfl); (focus rfl)
     refine r_storeW (v := .ag [v, I s.next]) (cs' := [v, I s.next]) rfl rfl (hO.el2 _) rfl rfl rfl rfl rfl ?_
     repeat (refine gr trivial ?_)
     exact resK_some (hO.giveTA fHZ fun Y fY => hk Y fY)
   rw [c5] at hk
   repeat (refine gr trivial ?_)
   refine r_idxG (T := ptT) rfl rfl hO.rg rfl e1 hi? fun p3 hp3 => ?_
   repeat (refine gr trivial ?_)
   refine r_fldG rfl hp3 (Nat.le_of_ble_eq_true rfl) fun p4 hp4 => ?_
   repeat (refine gr trivial ?_)
   refine r_loadG (v := I s.parts[i].size) rfl hp4 rfl ?_
   repeat (refine gr trivial ?_)
   cases c6 : decide (s.parts[i].size < r.off)
   case true =>
     rw [c6] at hk
     repeat (refine gr trivial ?_)
     apply r_loadb (v := .ag [v, I s.next]); (focus rfl); (focus rfl); (focus rfl)
     refine r_storeW (v := .ag [v, I s.next]) (cs' := [v, I s.next]) rfl rfl (hO.el2 _) rfl rfl rfl rfl rfl ?_
     repeat (refine gr trivial ?_)
     exact resK_some (hO.giveTA fHZ fun Y fY => hk Y fY)
   rw [c6] at hk
   have hne : s.parts ≠ [] := by intro e; rw [e] at hi; simp at hi
   obtain ⟨bb, c, zs, rfl, hbN, hZb, hcc, hlc, hm⟩ := hO.obj hne
   repeat (refine gr trivial ?_)
   refine r_idxO rfl rfl (by rw [e1]; omega) ?_
   repeat (refine gr trivial ?_)
   have e3 : 0 + (ixI s r).toNat * 36 + 35 = i * 36 + 35 := by rw [e1]; simp
   rw [e3]
   have hlen : (cellsG ptT s.parts ++ zs).length = c * 36 := by rw [List.length_append, cellsG_len]; exact hcc
   refine r_storeX (cs' := cellsG ptT (setOff s.parts i r.off) ++ zs) rfl rfl rfl rfl hZb (Nat.ble_eq_true_of_le (by rw [hlen]; omega)) (cellsP_setoff hi r.off zs) fun X' hX' fX' => ?_
   repeat (refine gr trivial ?_)
   apply r_loadb (v := .ag [.v (.slice (some ⟨bb, 0, none⟩) s.parts.length c), I s.next]); (focus rfl); (focus rfl); (focus rfl)
   refine r_storeW (v := .ag [.v (.slice (some ⟨bb, 0, none⟩) s.parts.length c), I s.next]) (cs' := [.v (.slice (some ⟨bb, 0, none⟩) s.parts.length c), I s.next]) rfl rfl rfl rfl rfl rfl rfl rfl ?_
   repeat (refine gr trivial ?_)
   have hl2 : (setOff s.parts i r.off).length = s.parts.length := by simp [setOff]
   have hO' : OG ptT H X' (.v (.slice (some ⟨bb, 0, none⟩) s.parts.length c)) (setOff s.parts i r.off) := .inr (.inr ⟨bb, c, zs, by rw [hl2], hbN, hX', by rw [hl2]; exact hcc, by rw [hl2]; exact hlc, hm⟩)
   rw [e1, Int.toNat_natCast] at hk
   exact resK_some (hO'.giveTA (fHZ.own hbN fX') fun Y fY => hk Y fY)
 rw [c3] at hk
 repeat (refine gs trivial ?_)
 refine c_join (Spec_SMono L) (fun (_ : Unit) => [(2, .lp 0 0), (3, .h (ptr b)), (4, .lp 2 0), (6, .h (I (ixI s r))), (70, .h (B ((r.kind.toNat : Int) == 2 || (r.kind.toNat : Int) == 3)))]) (fun _ => [(0, [v, I s.next]), (2, [.v (.slice none 0 0), I 0])]) (fun _ V => V = Z) ?_ ?_
 · repeat (refine gs trivial ?_)
   cases c5 : (r.kind.toNat : Int) == 2
   · repeat (refine gs trivial ?_)
     refine j_n () rfl ?_
     (refine leM ?_ ?_ ?_ <;> (repeat refine leS trivial ?_) <;> exact leE)
   · repeat (refine gs trivial ?_)
     refine j_n () rfl ?_
     (refine leM ?_ ?_ ?_ <;> (repeat refine leS trivial ?_) <;> exact leE)
 rintro - V rfl
 cases c5 : (r.kind.toNat : Int) == 2 || (r.kind.toNat : Int) == 3
 case false =>
   rw [c5] at hk
   repeat (refine gr trivial ?_)
   apply r_loadb (v := .ag [v, I s.next]); (focus rfl); (focus rfl); (focus rfl)
   refine r_storeW (v := .ag [v, I s.next]) (cs' := [v, I s.next]) rfl rfl (hO.el2 _) rfl rfl rfl rfl rfl ?_
   repeat (refine gr trivial ?_)
   exact resK_some (hO.giveTA fHZ fun Y fY => hk Y fY)
 rw [c5] at hk
 repeat (refine gr trivial ?_)
 cases c4 : decide (ixI s r < 0)
 case true =>
   rw [c4] at hk
   repeat (refine gr trivial ?_)
   apply r_loadb (v := .ag [v, I s.next]); (focus rfl); (focus rfl); (focus rfl)
   refine r_storeW (v := .ag [v, I s.next]) (cs' := [v, I s.next]) rfl rfl (hO.el2 _) rfl rfl rfl rfl rfl ?_
   repeat (refine gr trivial ?_)
   exact resK_some (hO.giveTA fHZ fun Y fY => hk Y fY)
 rw [c4] at hk
 obtain ⟨i, hi, e1, e2⟩ := ixI_lt c4
 have hne : s.parts ≠ [] := by intro e; rw [e] at hi; simp at hi
 obtain ⟨bb, c, zs, rfl, hbN, hZb, hcc, hlc, hm⟩ := hO.obj hne
 rw [e1, Int.toNat_natCast] at hk
 rw [e1]
 repeat (refine gr trivial ?_)
 (apply r_call; (focus rfl))
 refine deleteP_spec L bb s.parts.length c i s.parts zs V hZb hcc rfl hlc hm hl hi _ fun X' zs' hX' hcc' fX' => ?_
 have hl2 : (s.parts.take i ++ s.parts.drop (i + 1)).length = s.parts.length - 1 := by rw [List.length_append, List.length_take, List.length_drop]; omega
 have hO' : OG ptT H X' (.v (.slice (some ⟨bb, 0, none⟩) (s.parts.length - 1) c)) (s.parts.take i ++ s.parts.drop (i + 1)) := .inr (.inr ⟨bb, c, zs', by rw [hl2], hbN, hX', hcc', by rw [hl2]; omega, hm⟩)
 repeat (refine gr trivial ?_)
 refine r_storeb (cs' := [.v (.slice (some ⟨bb, 0, none⟩) (s.parts.length - 1) c), I s.next]) rfl rfl rfl rfl rfl rfl rfl ?_
 repeat (refine gr trivial ?_)
 apply r_loadb (v := .ag [.v (.slice (some ⟨bb, 0, none⟩) (s.parts.length - 1) c), I s.next]); (focus rfl); (focus rfl); (focus rfl)
 refine r_storeW (v := .ag [.v (.slice (some ⟨bb, 0, none⟩) (s.parts.length - 1) c), I s.next]) (cs' := [.v (.slice (some ⟨bb, 0, none⟩) (s.parts.length - 1) c), I s.next]) rfl rfl rfl rfl rfl rfl rfl rfl ?_
 repeat (refine gr trivial ?_)
 exact resK_some (hO'.giveTA (fHZ.own hbN fX') fun Y fY => hk Y fY)
end Sm
namespace Sm
open Go
def playS : Sta → List Rc → Sta × Int
 | s, [] => (s, 0)
 | s, r :: l => if (stepS s r).2 then ((playS (stepS s r).1 l).1, 1 + (playS (stepS s r).1 l).2) else (s, 0)
def z0 : Sta := ⟨[], 0⟩
theorem stepS_len (s : Sta) (r : Rc) : (stepS s r).1.parts.length ≤ s.parts.length + 1 := by
 unfold stepS beginS setOff
 cases (r.kind.toNat : Int) == 0
 · cases (r.kind.toNat : Int) == 4
   · cases (r.kind.toNat : Int) == 1
     · cases (r.kind.toNat : Int) == 2 || (r.kind.toNat : Int) == 3
       · exact Nat.le_succ _
       · cases decide (ixI s r < 0)
         · simp only [cond_true, cond_false, List.length_append, List.length_take, List.length_drop]; omega
         · exact Nat.le_succ _
     · cases decide (ixI s r < 0)
       · cases decide (r.off < (atP s r).off)
         · cases decide ((atP s r).size < r.off)
           · simp only [cond_true, cond_false, List.length_set]; omega
           · exact Nat.le_succ _
         · exact Nat.le_succ _
       · exact Nat.le_succ _
   · cases decide (r.id < s.next) <;> exact Nat.le_succ _
 · cases (fndP s.parts r.path).2 || (decide (r.id < s.next) || decide (64 ≤ (s.parts.length : Int)))
   · simp only [cond_true, cond_false, List.length_append, List.length_cons, List.length_nil]; omega
   · exact Nat.le_succ _
def imgR : Int → List Pt → List Rc
 | _, [] => []
 | n, p :: l => ⟨0, p.id, p.path, p.sum, p.size, 0⟩ :: ((bif decide (0 < p.off) then [⟨1, p.id, [], [], 0, p.off⟩] else []) ++ imgR n l)
def nxtI : Int → List Pt → Int
 | n, [] => n
 | _, p :: l => nxtI (p.id + 1) l
def imageS (s : Sta) : List Rc := imgR 0 s.parts ++ bif decide (nxtI 0 s.parts < s.next) then [⟨4, s.next - 1, [], [], 0, 0⟩] else []
def sameS (a b : Sta) : Bool := a.next == b.next && ptsB a.parts b.parts
attribute [local irreducible] csem rsem dsem seqK blockK normK finK DK RK JK BR G3 resK Spec Tok Fr CV
theorem jplay_spec (L : Linked code) (tk : Tk) (l : List Rc) (hl : l.length ≤ 1000000) (hid : ∀ r ∈ l, 0 ≤ r.id ∧ r.id ≤ 1099511627776) : PureF L 400 [.sl tk 37 (l.map recE)] (.tu [stE (playS z0 l).1, I (playS z0 l).2]) := by
 intro H K hk
 refine go_spec L code400 rfl ?_
 repeat (refine gr trivial ?_)
 refine c_loop (Spec_SMono L) (fun (q : Nat × Sta) => [(0, .h (.sl tk 37 (l.map recE))), (2, .lp 0 0), (4, .lp 1 0), (9, .h (.sl tk 37 (l.map recE))), (10, .h (I l.length)), (11, .h (I q.1))]) (fun q => [(0, [.v (.slice none 0 0), I 0]), (1, stC q.2)]) (fun q X => Fr [] H X ∧ q.1 ≤ l.length ∧ q.2.parts.length ≤ q.1 ∧ (playS z0 l).1 = (playS q.2 (l.drop q.1)).1 ∧ (playS z0 l).2 = q.1 + (playS q.2 (l.drop q.1)).2) (fun q => l.length - q.1) (0, z0) ?_ ⟨Fr.refl _ _, by simp, by simp [z0], rfl, by simp⟩ ?_
 · refine leM ?_ (leB_eq rfl rfl (leB_w rfl ⟨Weak.nil' 36, Weak.refl _, trivial⟩ rfl leB_nil)) ?_ <;> (repeat refine leS trivial ?_) <;> exact leE
 rintro ⟨j, s⟩ X ⟨fX, hj, hs, e1, e2⟩
 dsimp only at hj hs e1 e2 ⊢
 repeat (refine gr trivial ?_)
 (refine ct trivial ?_ ?_ <;> intro h)
 · have hlt : j < l.length := by have := of_decide_eq_true h; omega
   have hr := hid l[j] (List.getElem_mem hlt)
   rw [List.drop_eq_getElem_cons hlt, playS] at e1 e2
   repeat (refine gr trivial ?_)
   refine r_idx (cs := rcC l[j]) rfl rfl rfl (by rw [List.getElem?_map, List.getElem?_eq_getElem hlt]; rfl) rfl ?_
   refine r_loadr (v := recE l[j]) rfl rfl ?_
   repeat (refine gr trivial ?_)
   refine r_storeW (v := recE l[j]) (cs' := rcC l[j]) rfl rfl rfl rfl rfl rfl rfl rfl ?_
   repeat (refine gr trivial ?_)
   apply r_loadb (v := stE s); (focus rfl); (focus rfl); (focus rfl)
   apply r_loadb (v := recE l[j]); (focus rfl); (focus rfl); (focus rfl)
   (apply r_call; (focus rfl))
   refine jstep_spec L s l[j] (by omega) hr.1 hr.2 X _ fun Y fY => ?_
   have hsl := stepS_len s l[j]
   repeat (refine gr trivial ?_)
   refine r_storeW (v := stE (stepS s l[j]).1) (cs' := stC (stepS s l[j]).1) rfl rfl rfl rfl rfl rfl rfl rfl ?_
   repeat (refine gr trivial ?_)
   cases c1 : (stepS s l[j]).2
   · rw [if_neg (by rw [c1]; simp)] at e1 e2
     rw [Bool.not_false]
     repeat (refine gr trivial ?_)
     apply r_loadb (v := stE s); (focus rfl); (focus rfl); (focus rfl)
     repeat (refine gr trivial ?_)
     refine r_storeW (v := stE s) (cs' := stC s) rfl rfl rfl rfl rfl rfl rfl rfl ?_
     repeat (refine gr trivial ?_)
     have := hk Y (fX.trans fY)
     rw [e1, e2] at this
     dsimp only at this
     rw [Int.add_zero] at this
     exact resK_some this
   · rw [if_pos c1] at e1 e2
     rw [Bool.not_true]
     repeat (refine gr trivial ?_)
     apply r_loadb (v := stE (stepS s l[j]).1); (focus rfl); (focus rfl); (focus rfl)
     refine r_storeW (v := stE (stepS s l[j]).1) (cs' := stC (stepS s l[j]).1) rfl rfl rfl rfl rfl rfl rfl rfl ?_
     repeat (refine gr trivial ?_)
     refine k_n (j + 1, (stepS s l[j]).1) (by dsimp only; omega) ⟨fX.trans fY, hlt, by dsimp only; omega, e1, ?_⟩ ?_
     · rw [e2]; dsimp only; omega
     · (refine leM ?_ ?_ ?_ <;> (repeat refine leS trivial ?_) <;> exact leE)
 · have hqe : j = l.length := by have := of_decide_eq_false h; omega
   subst hqe
   rw [List.drop_length, playS] at e1 e2
   repeat (refine gr trivial ?_)
   apply r_loadb (v := stE s); (focus rfl); (focus rfl); (focus rfl)
   repeat (refine gr trivial ?_)
   refine r_storeW (v := stE s) (cs' := stC s) rfl rfl rfl rfl rfl rfl rfl rfl ?_
   repeat (refine gr trivial ?_)
   have := hk X fX
   rw [e1, e2] at this
   dsimp only at this
   rw [Int.add_zero] at this
   exact resK_some this
theorem jsame_spec (L : Linked code) (a b : Sta) (ha : a.parts.length ≤ 1048576) (hb : b.parts.length ≤ 1048576) : PureF L 381 [stE a, stE b] (B (sameS a b)) := by
 intro H K hk
 unfold sameS at hk
 refine go_spec L code381 rfl ?_
 repeat (refine gr trivial ?_)
 refine r_box (v := stE a) (cs := stC a) rfl rfl rfl rfl rfl ?_
 repeat (refine gr trivial ?_)
 refine r_box (v := stE b) (cs := stC b) rfl rfl rfl rfl rfl ?_
 repeat (refine gr trivial ?_)
 cases c1 : a.next == b.next
 · rw [c1] at hk
   repeat (refine gr trivial ?_)
   exact resK_some (hk H (Fr.refl _ _))
 · rw [c1] at hk
   repeat (refine gr trivial ?_)
   (apply r_call; (focus rfl))
   refine eqP_spec L .no .no a.parts b.parts ha hb H _ fun X fX => ?_
   repeat (refine gr trivial ?_)
   exact resK_some (hk X fX)
theorem jimage_spec (L : Linked code) (s : Sta) (hs : s.parts.length ≤ 100000) (hi : ∀ p ∈ s.parts, p.id ≤ 4611686018427387904 ∧ -4611686018427387904 ≤ p.id) (hn : s.next ≤ 4611686018427387904 ∧ -4611686018427387904 ≤ s.next) : PureF L 405 [stE s] (.sl .no 37 ((imageS s).map recE)) := by
 intro H K hk
 refine Spec.give ?_
 refine go_spec L code405 rfl ?_
 repeat (refine gr trivial ?_)
 refine r_box (v := stE s) (cs := stC s) rfl rfl rfl rfl rfl ?_
 repeat (refine gr trivial ?_)
 refine c_loop (Spec_SMono L) (fun (q : Nat × HV × List Rc × Int) => [(1, .lp 0 0), (3, .h q.2.1), (4, .h (I q.2.2.2)), (8, .h (.sl .no 36 (s.parts.map partE))), (9, .h (I s.parts.length)), (10, .h (I q.1))]) (fun _ => [(0, stC s)]) (fun q X => OG recT H X q.2.1 q.2.2.1 ∧ Fr [] H X ∧ q.1 ≤ s.parts.length ∧ q.2.2.1.length ≤ 2 * q.1 ∧ imgR 0 s.parts = q.2.2.1 ++ imgR 0 (s.parts.drop q.1) ∧ nxtI 0 s.parts = nxtI q.2.2.2 (s.parts.drop q.1) ∧ q.2.2.2 ≤ 4611686018427387905 ∧ -4611686018427387905 ≤ q.2.2.2) (fun q => s.parts.length - q.1) (0, .v (.slice none 0 0), [], 0) ?_ ⟨OG.nil _ _ _, Fr.refl _ _, by simp, by simp, rfl, rfl, by simp, by simp⟩ ?_
 · (refine leM ?_ ?_ ?_ <;> (repeat refine leS trivial ?_) <;> exact leE)
 rintro ⟨j, v, out, nx⟩ X ⟨hO, fX, hj, hl, e1, e2, n1, n2⟩
 dsimp only at hO hj hl e1 e2 n1 n2 ⊢
 repeat (refine gr trivial ?_)
 (refine ct trivial ?_ ?_ <;> intro h)
 · have hlt : j < s.parts.length := by have := of_decide_eq_true h; omega
   have hb := hi s.parts[j] (List.getElem_mem hlt)
   rw [List.drop_eq_getElem_cons hlt, imgR] at e1
   rw [List.drop_eq_getElem_cons hlt, nxtI] at e2
   generalize hp : s.parts[j] = p at *
   repeat (refine gr trivial ?_)
   refine r_idx (cs := ptC p) rfl rfl rfl (by rw [List.getElem?_map, List.getElem?_eq_getElem hlt, hp]; rfl) rfl ?_
   refine r_loadr (v := partE p) rfl rfl ?_
   repeat (refine gr trivial ?_)
   refine r_storeW (v := partE p) (cs' := ptC p) rfl rfl rfl rfl rfl rfl rfl rfl ?_
   repeat (refine gr trivial ?_)
   apply r_loadb (v := .ag (sumC p.sum)); (focus rfl); (focus rfl); (focus rfl)
   repeat (refine gr trivial ?_)
   refine r_buildR (s := p.sum) (k := 0) rfl rfl rfl rfl rfl rfl ?_
   repeat (refine gr trivial ?_)
   refine r_appG (T := recT) (r := [⟨0, p.id, p.path, p.sum, p.size, 0⟩]) hO fX rfl rfl rfl rfl (by simp only [List.length_cons, List.length_nil]; omega) fun v' Z hO' fZ _ => ?_
   repeat (refine gs trivial ?_)
   refine c_join (Spec_SMono L) (fun (w : HV × List Rc) => [(1, .lp 0 0), (3, .h w.1), (6, .lp 1 0), (8, .h (.sl .no 36 (s.parts.map partE))), (9, .h (I s.parts.length)), (10, .h (I j))]) (fun _ => [(0, stC s), (1, ptC p)]) (fun w V => OG recT H V w.1 w.2 ∧ Fr [] H V ∧ w.2.length ≤ 2 * j + 2 ∧ imgR 0 s.parts = w.2 ++ imgR 0 (s.parts.drop (j + 1))) ?_ ?_
   · repeat (refine gs trivial ?_)
     cases c1 : decide (0 < p.off)
     · rw [c1] at e1
       repeat (refine gs trivial ?_)
       refine j_n (v', out ++ [⟨0, p.id, p.path, p.sum, p.size, 0⟩]) ⟨hO', fZ, by simp only [List.length_append, List.length_cons, List.length_nil]; omega, by rw [e1]; simp only [cond_false, List.append_assoc, List.cons_append, List.nil_append]⟩ ?_
       (refine leM ?_ ?_ ?_ <;> (repeat refine leS trivial ?_) <;> exact leE)
     · rw [c1] at e1
       repeat (refine gr trivial ?_)
       refine r_calm (x := .h (recE ⟨1, p.id, [], [], 0, p.off⟩)) rfl rfl ?_
       repeat (refine gr trivial ?_)
       refine r_appG (T := recT) (r := [⟨1, p.id, [], [], 0, p.off⟩]) hO' fZ rfl rfl rfl rfl (by simp only [List.length_append, List.length_cons, List.length_nil]; omega) fun v2 Z2 hO2 fZ2 _ => ?_
       repeat (refine gs trivial ?_)
       refine j_n (v2, out ++ [⟨0, p.id, p.path, p.sum, p.size, 0⟩] ++ [⟨1, p.id, [], [], 0, p.off⟩]) ⟨hO2, fZ2, by simp only [List.length_append, List.length_cons, List.length_nil]; omega, by rw [e1]; simp only [cond_true, List.append_assoc, List.cons_append, List.nil_append]⟩ ?_
       (refine leM ?_ ?_ ?_ <;> (repeat refine leS trivial ?_) <;> exact leE)
   rintro ⟨w, o2⟩ V ⟨hO2, fV, l2, e3⟩
   dsimp only at hO2 l2 e3 ⊢
   repeat (refine gr trivial ?_)
   refine k_n (j + 1, w, o2, p.id + 1) (by dsimp only; omega) ⟨hO2, fV, hlt, by dsimp only; omega, e3, e2, by dsimp only; omega, by dsimp only; omega⟩ ?_
   (refine leM ?_ ?_ ?_ <;> (repeat refine leS trivial ?_) <;> exact leE)
 · have hqe : j = s.parts.length := by have := of_decide_eq_false h; omega
   subst hqe
   rw [List.drop_length, imgR, List.append_nil] at e1
   rw [List.drop_length, nxtI] at e2
   have hk2 : ∀ X', Fr [] H X' → K (.sl .no 37 ((out ++ (bif decide (nx < s.next) then [⟨4, s.next - 1, [], [], 0, 0⟩] else [] : List Rc)).map recE)) X' := by
     unfold imageS at hk
     rw [e1, e2] at hk
     exact hk
   repeat (refine gs trivial ?_)
   refine c_join (Spec_SMono L) (fun (w : HV) => [(3, .h w)]) (fun _ => []) (fun w V => OG recT H V w (out ++ (bif decide (nx < s.next) then [⟨4, s.next - 1, [], [], 0, 0⟩] else [] : List Rc)) ∧ Fr [] H V) ?_ ?_
   · repeat (refine gs trivial ?_)
     cases c1 : decide (nx < s.next)
     · repeat (refine gs trivial ?_)
       refine j_n v ⟨by dsimp only [cond_false]; rw [List.append_nil]; exact hO, fX⟩ ?_
       (refine leM ?_ ?_ ?_ <;> (repeat refine leS trivial ?_) <;> exact leE)
     · repeat (refine gr trivial ?_)
       refine r_calm (x := .h (recE ⟨4, s.next - 1, [], [], 0, 0⟩)) rfl rfl ?_
       repeat (refine gr trivial ?_)
       refine r_appG (T := recT) (r := [⟨4, s.next - 1, [], [], 0, 0⟩]) hO fX rfl rfl rfl rfl (by simp only [List.length_append, List.length_cons, List.length_nil]; omega) fun v2 Z2 hO2 fZ2 _ => ?_
       repeat (refine gs trivial ?_)
       refine j_n v2 ⟨hO2, fZ2⟩ ?_
       (refine leM ?_ ?_ ?_ <;> (repeat refine leS trivial ?_) <;> exact leE)
   rintro w V ⟨hO2, fV⟩
   repeat (refine gr trivial ?_)
   exact resK_some (hO2.give fV fun Y fY => hk2 Y fY)
end Sm
namespace Sm
open Go
def layR : List Rc → List UInt8
 | [] => []
 | r :: l => bif (recPut r).2 != 0 then [] else (recPut r).1 ++ layR l
theorem recPut_len (r : Rc) : (recPut r).1.length ≤ 1100 := by
 unfold recPut
 cases c : chkR r != 0
 · have h : chkR r = 0 := by simpa using c
   have h4 := (chkR_ok h).2.2.2.1
   have h1 := recBody_le h4
   dsimp only [cond_false]
   unfold encR textB sealB
   generalize hx : recBody r ++ le4 (crcV (recBody r)) = x
   have hxl : x.length = (recBody r).length + 4 := by rw [← hx, List.length_append, le4_len]
   have := putV_le (x.length : Int)
   rw [List.length_append]
   omega
 · exact Nat.zero_le _
theorem CV_mono {code : Nat → SF} (L : Linked code) {f : HV} {xs : List HV} {H : Heap} {K K' : HV → Heap → Prop} (hq : ∀ h X, K h X → K' h X) (h : CV L f xs H K) : CV L f xs H K' := by
 unfold CV at h ⊢
 cases f <;> first | exact Spec_mono hq h | exact h.elim
attribute [local irreducible] csem rsem dsem seqK blockK normK finK DK RK JK BR G3 resK Spec Tok Fr CV
theorem jlay_spec (L : Linked code) (tk : Tk) (l : List Rc) (hl : l.length ≤ 1000000) (hp : ∀ r ∈ l, r.path.length ≤ 1048576) (H : Heap) (K : HV → Heap → Prop) (hk : ∀ v X, OB H X v (layR l) → Fr [] H X → K v X) : Spec L.P L.ν 401 [.sl tk 37 (l.map recE)] H K := by
 refine go_spec L code401 rfl ?_
 repeat (refine gr trivial ?_)
 refine c_loop (Spec_SMono L) (fun (q : Nat × HV × List UInt8) => [(0, .h (.sl tk 37 (l.map recE))), (3, .h q.2.1), (8, .h (.sl tk 37 (l.map recE))), (9, .h (I l.length)), (10, .h (I q.1))]) (fun _ => []) (fun q X => OB H X q.2.1 q.2.2 ∧ Fr [] H X ∧ q.1 ≤ l.length ∧ q.2.2.length ≤ q.1 * 1100 ∧ layR l = q.2.2 ++ layR (l.drop q.1)) (fun q => l.length - q.1) (0, .v (.slice none 0 0), []) ?_ ⟨OB.nil _ _, Fr.refl _ _, by simp, by simp, rfl⟩ ?_
 · (refine leM ?_ ?_ ?_ <;> (repeat refine leS trivial ?_) <;> exact leE)
 rintro ⟨j, v, b⟩ X ⟨hO, fX, hj, hb, e1⟩
 dsimp only at hO hj hb e1 ⊢
 repeat (refine gr trivial ?_)
 (refine ct trivial ?_ ?_ <;> intro h)
 · have hlt : j < l.length := by have := of_decide_eq_true h; omega
   rw [List.drop_eq_getElem_cons hlt, layR] at e1
   have hpl := recPut_len l[j]
   repeat (refine gr trivial ?_)
   refine r_idx (cs := rcC l[j]) rfl rfl rfl (by rw [List.getElem?_map, List.getElem?_eq_getElem hlt]; rfl) rfl ?_
   refine r_loadr (v := recE l[j]) rfl rfl ?_
   repeat (refine gr trivial ?_)
   refine r_storeW (v := recE l[j]) (cs' := rcC l[j]) rfl rfl rfl rfl rfl rfl rfl rfl ?_
   repeat (refine gr trivial ?_)
   apply r_loadb (v := recE l[j]); (focus rfl); (focus rfl); (focus rfl)
   (apply r_call; (focus rfl))
   refine recPut_spec L l[j] (hp _ (List.getElem_mem hlt)) X _ fun Y fY => ?_
   have hO := hO.fr fY
   generalize recPut l[j] = s at *
   repeat (refine gr trivial ?_)
   cases c1 : s.2 != 0
   · rw [c1] at e1
     dsimp only [cond_false] at e1
     repeat (refine gr trivial ?_)
     refine r_appV hO (fX.trans fY) rfl rfl (flatUr _ _ _) (by omega) fun v' Z hO' fZ _ => ?_
     repeat (refine gr trivial ?_)
     refine k_n (j + 1, v', b ++ s.1) (by dsimp only; omega) ⟨hO', fZ, hlt, by simp only [List.length_append]; omega, by rw [e1, List.append_assoc]⟩ ?_
     (refine leM ?_ ?_ ?_ <;> (repeat refine leS trivial ?_) <;> exact leE)
   · rw [c1] at e1
     dsimp only [cond_true] at e1
     rw [List.append_nil] at e1
     rw [e1] at hk
     repeat (refine gr trivial ?_)
     exact resK_some (hk _ _ hO (fX.trans fY))
 · have hqe : j = l.length := by have := of_decide_eq_false h; omega
   subst hqe
   rw [List.drop_length, layR, List.append_nil] at e1
   rw [e1] at hk
   repeat (refine gr trivial ?_)
   exact resK_some (hk _ _ hO fX)
def StepsOK (L : Linked code) (K : HV → Heap → Prop) : List HV → Heap → Prop
 | [], H => K (I 0) H
 | f :: fs, H => CV L f [] H fun r X => ∃ e : Int, r = I e ∧ (e ≠ 0 → K (I e) X) ∧ (e = 0 → StepsOK L K fs X)
theorem jsteps_spec (L : Linked code) (fs : List HV) (hl : fs.length ≤ 1000) (hf : ∀ f ∈ fs, f.cells = [f]) (H : Heap) (K : HV → Heap → Prop) (hk : StepsOK L K fs H) : Spec L.P L.ν 411 [.sl .full 1 fs] H K := by
 refine go_spec L code411 rfl ?_
 repeat (refine gr trivial ?_)
 refine c_loop (Spec_SMono L) (fun (j : Nat) => [(0, .h (.sl .full 1 fs)), (6, .h (.sl .full 1 fs)), (7, .h (I fs.length)), (8, .h (I j))]) (fun _ => []) (fun j X => j ≤ fs.length ∧ StepsOK L K (fs.drop j) X) (fun j => fs.length - j) 0 ?_ ⟨by omega, hk⟩ ?_
 · (refine leM ?_ ?_ ?_ <;> (repeat refine leS trivial ?_) <;> exact leE)
 rintro j X ⟨hj, hS⟩
 repeat (refine gr trivial ?_)
 (refine ct trivial ?_ ?_ <;> intro h)
 · have hlt : j < fs.length := by have := of_decide_eq_true h; omega
   rw [List.drop_eq_getElem_cons hlt, StepsOK] at hS
   repeat (refine gr trivial ?_)
   refine r_idx (cs := [fs[j]]) rfl rfl rfl (List.getElem?_eq_getElem hlt) (hf _ (List.getElem_mem hlt)) ?_
   refine r_loadr (v := fs[j]) rfl rfl ?_
   repeat (refine gr trivial ?_)
   apply r_callF L; (focus rfl); (focus rfl)
   refine CV_mono L (fun r Y hr => ?_) hS
   obtain ⟨e, rfl, h1, h2⟩ := hr
   repeat (refine gr trivial ?_)
   cases c1 : e != 0
   · have c1 : e = 0 := by simpa using c1
     subst c1
     repeat (refine gr trivial ?_)
     refine k_n (j + 1) (by omega) ⟨hlt, h2 rfl⟩ ?_
     (refine leM ?_ ?_ ?_ <;> (repeat refine leS trivial ?_) <;> exact leE)
   · have c1 : e ≠ 0 := by simpa using c1
     repeat (refine gr trivial ?_)
     exact resK_some (h1 c1)
 · have hqe : j = fs.length := by have := of_decide_eq_false h; omega
   subst hqe
   rw [List.drop_length, StepsOK] at hS
   repeat (refine gr trivial ?_)
   exact resK_some hS
end Sm
