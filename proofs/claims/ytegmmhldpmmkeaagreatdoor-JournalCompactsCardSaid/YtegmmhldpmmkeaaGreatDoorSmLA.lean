/-
  A,B,C,D,E
-/
import Derived.Below
import Derived.Calls
import Derived.Tactics
import Derived.Laws.OwnMore
import Derived.Laws.Rows
import Derived.Deep.Draws
import Derived.RowKit3
import Derived.Lib.Bytealg
import Derived.Lib.Overlaps
set_option linter.unusedVariables false
set_option linter.unusedSimpArgs false
namespace Sm
open Go
inductive Tk where
 | no | tip (b cap : Nat) | full
 deriving DecidableEq, Inhabited
inductive HV where
 | v (x : Value)
 | sl (tk : Tk) (sz : Nat) (es : List HV)
 | rp (cs : List HV)
 | fn (g : Nat) (caps : List HV)
 | fm (g : Nat) (r : HV)
 | ag (cs : List HV)
 | tu (vs : List HV)
 deriving Inhabited
def HV.one : HV → Bool
 | .v x => x.oneCell'
 | .sl .. => true
 | .rp _ => true
 | .fn .. => true
 | .fm .. => true
 | _ => false
def HV.ncells : HV → Nat
 | .ag cs => cs.length
 | _ => 1
def HV.el : HV → Bool
 | .ag cs => cs.all HV.one
 | h => h.one
def HV.cells : HV → List HV
 | .ag cs => cs
 | h => [h]
def cellsAt (w : World) (b off : Nat) (us : List Value) : Prop := ∀ j x, us[j]? = some x → w.cell? ⟨b, off + j, none⟩ = some x
def flat (vals : List Value) : List Value := vals.flatMap fun v => v.cells.toList
def tkok (tk : Tk) (A : Option Addr) (n cap : Nat) : Prop :=
 match tk with
 | .no => True
 | .tip b c => A = some ⟨b, 0, none⟩ ∧ cap = c
 | .full => cap = n
def gOff : Nat := 1000000
def fnat (ν : Nat → Option Nat) (n g : Nat) : Prop := ν n = some g ∧ n < gOff
mutual
def rep (ν : Nat → Option Nat) (K : Nat → Nat) (w : World) : HV → Value → Prop
 | .v x, u => u = x
 | .sl tk sz es, u => ∃ A cap vals, u = .slice A es.length cap ∧ es.length ≤ cap ∧ cap ≤ maxLen ∧ tkok tk A es.length cap ∧
     es.all HV.el = true ∧ (∀ e ∈ es, e.ncells = sz) ∧ repL ν K w es vals ∧
     (es = [] ∨ ∃ b off, A = some ⟨b, off, none⟩ ∧ off + es.length * sz ≤ K b ∧ cellsAt w b off (flat vals))
 | .rp cs, u => ∃ b off us, u = .pointer (some ⟨b, off, none⟩) ∧ cs.all HV.one = true ∧ repL ν K w cs us ∧ off + us.length ≤ K b ∧ cellsAt w b off us
 | .fn g caps, u => ∃ n us, fnat ν n g ∧ u = .func (.func n) #[] us.toArray ∧ repL ν K w caps us
 | .fm g r, u => ∃ n u', fnat ν n g ∧ u = .func (.func n) #[u'] #[] ∧ rep ν K w r u'
 | .ag cs, u => ∃ us, u = .agg us.toArray ∧ cs.all HV.one = true ∧ repL ν K w cs us
 | .tu vs, u => ∃ us, u = .tuple us.toArray ∧ repL ν K w vs us
def repL (ν : Nat → Option Nat) (K : Nat → Nat) (w : World) : List HV → List Value → Prop
 | [], us => us = []
 | h :: hs, us => ∃ u us', us = u :: us' ∧ rep ν K w h u ∧ repL ν K w hs us'
end
structure Grow (w : World) (K : Nat → Nat) (w' : World) (K' : Nat → Nat) : Prop where
 le : ∀ b, K b ≤ K' b
 cell : ∀ b j, j < K b → w'.cell? ⟨b, j, none⟩ = w.cell? ⟨b, j, none⟩
theorem Grow.refl (w : World) (K : Nat → Nat) : Grow w K w K := ⟨fun _ => Nat.le_refl _, fun _ _ _ => rfl⟩
theorem Grow.trans {w K w1 K1 w2 K2} (h : Grow w K w1 K1) (k : Grow w1 K1 w2 K2) : Grow w K w2 K2 :=
 ⟨fun b => Nat.le_trans (h.le b) (k.le b), fun b j hj => (k.cell b j (Nat.lt_of_lt_of_le hj (h.le b))).trans (h.cell b j hj)⟩
theorem cellsAt.grow {w K w' K' b off us} (hg : Grow w K w' K') (hb : off + us.length ≤ K b) (h : cellsAt w b off us) : cellsAt w' b off us := by
 intro j x hx
 have hj : j < us.length := by
   rcases Nat.lt_or_ge j us.length with h | h
   · exact h
   · rw [List.getElem?_eq_none h] at hx; cases hx
 rw [hg.cell b (off + j) (by omega)]
 exact h j x hx
theorem repL_length {ν K w} : ∀ {hs : List HV} {us : List Value}, repL ν K w hs us → us.length = hs.length
 | [], us, h => by simp [repL] at h; simp [h]
 | h :: hs, us, hr => by
   simp only [repL] at hr
   obtain ⟨u, us', rfl, _, h2⟩ := hr
   simp [repL_length h2]
theorem rep_cells_size {ν K w h u} (he : h.el = true) (hr : rep ν K w h u) : u.cells.size = h.ncells := by
 cases h with
 | v x =>
   simp only [rep] at hr; subst hr
   cases u <;> simp [HV.el, HV.one, Value.oneCell', Value.cells, HV.ncells] at *
 | sl tk sz es => simp only [rep] at hr; obtain ⟨A, cap, vals, rfl, _⟩ := hr; rfl
 | rp cs => simp only [rep] at hr; obtain ⟨b, off, us, rfl, _⟩ := hr; rfl
 | fn g caps => simp only [rep] at hr; obtain ⟨n, us, _, rfl, _⟩ := hr; rfl
 | fm g r => simp only [rep] at hr; obtain ⟨n, us, _, rfl, _⟩ := hr; rfl
 | ag cs => simp only [rep] at hr; obtain ⟨us, rfl, _, h2⟩ := hr; simp [Value.cells, HV.ncells, repL_length h2]
 | tu vs => simp [HV.el, HV.one] at he
theorem flat_length {ν K w sz} : ∀ {es : List HV} {vals : List Value}, repL ν K w es vals → es.all HV.el = true → (∀ e ∈ es, e.ncells = sz) → (flat vals).length = es.length * sz
 | [], vals, h, _, _ => by simp [repL] at h; simp [h, flat]
 | e :: es, vals, hr, ha, hs => by
   simp only [repL] at hr
   obtain ⟨u, us', rfl, h1, h2⟩ := hr
   simp only [List.all_cons, Bool.and_eq_true] at ha
   have ih := flat_length h2 ha.2 (fun e he => hs e (by simp [he]))
   have h3 := rep_cells_size ha.1 h1
   have h4 := hs e (by simp)
   simp only [flat, List.flatMap_cons, List.length_append, Array.length_toList, h3, h4] at ih ⊢
   rw [ih, List.length_cons, Nat.add_mul]; omega
mutual
theorem rep.grow {ν K w K' w'} (hg : Grow w K w' K') : ∀ (h : HV) {u : Value}, rep ν K w h u → rep ν K' w' h u
 | .v x, u, hr => by simpa [rep] using hr
 | .sl tk sz es, u, hr => by
   simp only [rep] at hr ⊢
   obtain ⟨A, cap, vals, h1, h2, h3, h4, h5, h6, h7, h8⟩ := hr
   have hfl := flat_length h7 h5 h6
   refine ⟨A, cap, vals, h1, h2, h3, h4, h5, h6, repL.grow hg es h7, ?_⟩
   rcases h8 with h8 | ⟨b, off, hA, hK, hc⟩
   · exact .inl h8
   · exact .inr ⟨b, off, hA, Nat.le_trans hK (hg.le b), hc.grow hg (by rw [hfl]; exact hK)⟩
 | .rp cs, u, hr => by
   simp only [rep] at hr ⊢
   obtain ⟨b, off, us, h1, h2, h3, h4, h5⟩ := hr
   exact ⟨b, off, us, h1, h2, repL.grow hg cs h3, Nat.le_trans h4 (hg.le b), h5.grow hg h4⟩
 | .fn g caps, u, hr => by
   simp only [rep] at hr ⊢
   obtain ⟨n, us, h1, h2, h3⟩ := hr
   exact ⟨n, us, h1, h2, repL.grow hg caps h3⟩
 | .fm g r, u, hr => by
   simp only [rep] at hr ⊢
   obtain ⟨n, u', h1, h2, h3⟩ := hr
   exact ⟨n, u', h1, h2, rep.grow hg r h3⟩
 | .ag cs, u, hr => by
   simp only [rep] at hr ⊢
   obtain ⟨us, h1, h2, h3⟩ := hr
   exact ⟨us, h1, h2, repL.grow hg cs h3⟩
 | .tu vs, u, hr => by
   simp only [rep] at hr ⊢
   obtain ⟨us, h1, h3⟩ := hr
   exact ⟨us, h1, repL.grow hg vs h3⟩
theorem repL.grow {ν K w K' w'} (hg : Grow w K w' K') : ∀ (hs : List HV) {us : List Value}, repL ν K w hs us → repL ν K' w' hs us
 | [], us, hr => by simpa [repL] using hr
 | h :: hs, us, hr => by
   simp only [repL] at hr ⊢
   obtain ⟨u, us', h1, h2, h3⟩ := hr
   exact ⟨u, us', h1, rep.grow hg h h2, repL.grow hg hs h3⟩
end
inductive Res where
 | obj (cs : List HV)
 | tip (e c : Nat)
 | mp (es : List (Value × HV × Nat)) (clock : Nat)
 | it (m : Option Nat) (since : Nat) (seen : List Nat) (last : Nat)
 deriving Inhabited
def repM (ν : Nat → Option Nat) (K : Nat → Nat) (w : World) : List (Value × HV × Nat) → List MapEntry → Prop
 | [], us => us = []
 | e :: es, us => ∃ u us', us = ⟨e.1, u, e.2.2⟩ :: us' ∧ rep ν K w e.2.1 u ∧ repM ν K w es us'
theorem repM.grow {ν K w K' w'} (hg : Grow w K w' K') : ∀ (es : List (Value × HV × Nat)) {us : List MapEntry}, repM ν K w es us → repM ν K' w' es us
 | [], us, h => h
 | e :: es, us, h => by
   obtain ⟨u, us', h1, h2, h3⟩ := h
   exact ⟨u, us', h1, rep.grow hg _ h2, repM.grow hg es h3⟩
abbrev Heap := Nat → Option Res
def resok (ν : Nat → Option Nat) (K : Nat → Nat) (w : World) (b : Nat) : Res → Prop
 | .obj cs => ∃ us T, w.heap[b]? = some (.cells us T (0, 0)) ∧ K b = 0 ∧ repL ν K w cs (us.toList.take cs.length) ∧ cs.all HV.one = true
 | .tip e c => ∃ us T, w.heap[b]? = some (.cells us T (0, 0)) ∧ K b = e ∧ e ≤ us.size ∧ c ≤ us.size
 | .mp es clock => ∃ us : Array MapEntry, w.heap[b]? = some (.map us clock) ∧ K b = 0 ∧ repM ν K w es us.toList
 | .it m since seen last => w.heap[b]? = some (.mapIter m since seen.toArray last) ∧ K b = 0
theorem repL.full {ν K w} {cs : List HV} {us : List Value} (h : repL ν K w cs us) : repL ν K w cs (us.take cs.length) := by
 rw [List.take_of_length_le (Nat.le_of_eq (repL_length h))]; exact h
def u32s (l : List Nat) : List HV := l.map fun n : Nat => .v (.int .u32 (n : Int))
def u64s (l : List Nat) : List HV := l.map fun n : Nat => .v (.int .u64 (n : Int))
def crcN1 (c : Nat) : Nat := if c % 2 = 1 then (c / 2) ^^^ 3988292384 else c / 2
def crcNat : List Nat := (List.range 16).map fun i => crcN1 (crcN1 (crcN1 (crcN1 i)))
def tenNat : List Nat := (List.range 20).map fun i => 10 ^ i
def tabOf (j : Nat) : List HV := if j = 0 then u32s crcNat else if j = 1 then u64s tenNat else []
def Tabs (ν : Nat → Option Nat) (K : Nat → Nat) (w : World) : Prop := ∀ n j, ν (gOff + n) = some (gOff + j) → rep ν K w (.rp (tabOf j)) (.pointer (some ⟨n, 0, none⟩))
theorem Tabs.grow {ν K w K' w'} (h : Tabs ν K w) (hg : Grow w K w' K') : Tabs ν K' w' := fun n j hn => (h n j hn).grow hg
structure hsat (ν : Nat → Option Nat) (w : World) (K : Nat → Nat) (H : Heap) : Prop where
 res : ∀ b r, H b = some r → resok ν K w b r
 fresh : ∀ b, w.heap.size ≤ b → K b = 0
 tab : Tabs ν K w
def quiet (ν : Nat → Option Nat) : Prop := ∀ n, ν n ≠ some 90
structure Ext (φ : Prop) (w : World) (K : Nat → Nat) (H : Heap) (w' : World) (K' : Nat → Nat) (H' : Heap) : Prop where
 os : w'.os = w.os
 tape : w'.tape = w.tape
 output : w'.output = w.output
 size : w.heap.size ≤ w'.heap.size
 drawn : φ → w.drawn ≤ w'.drawn
 grow : Grow w K w' K'
 same : ∀ b, b < w.heap.size → H b = none → w'.heap[b]? = w.heap[b]? ∧ K' b = K b ∧ H' b = none
theorem Ext.refl {φ : Prop} (w K H) : Ext φ w K H w K H := ⟨rfl, rfl, rfl, Nat.le_refl _, fun _ => Nat.le_refl _, Grow.refl _ _, fun _ _ h => ⟨rfl, rfl, h⟩⟩
theorem Ext.trans {φ : Prop} {w K H w1 K1 H1 w2 K2 H2} (h : Ext φ w K H w1 K1 H1) (k : Ext φ w1 K1 H1 w2 K2 H2) : Ext φ w K H w2 K2 H2 :=
 ⟨k.os.trans h.os, k.tape.trans h.tape, k.output.trans h.output, Nat.le_trans h.size k.size, fun q => Nat.le_trans (h.drawn q) (k.drawn q), h.grow.trans k.grow, fun b hb hH => by
   obtain ⟨a1, a2, a3⟩ := h.same b hb hH
   obtain ⟨b1, b2, b3⟩ := k.same b (Nat.lt_of_lt_of_le hb h.size) a3
   exact ⟨b1.trans a1, b2.trans a2, b3⟩⟩
theorem resok_lt {ν K w b r} (h : resok ν K w b r) : b < w.heap.size := by
 have key : ∀ o, w.heap[b]? = some o → b < w.heap.size := fun o ho => by
   rcases Nat.lt_or_ge b w.heap.size with h | h
   · exact h
   · rw [Array.getElem?_eq_none h] at ho; cases ho
 cases r with
 | obj cs => obtain ⟨us, T, h1, _⟩ := h; exact key _ h1
 | tip e c => obtain ⟨us, T, h1, _⟩ := h; exact key _ h1
 | mp es c => obtain ⟨us, h1, _⟩ := h; exact key _ h1
 | it m s seen l => exact key _ h.1
theorem hsat.lt {ν w K H b r} (h : hsat ν w K H) (hb : H b = some r) : b < w.heap.size := resok_lt (h.res b r hb)
theorem hsat.none_new {ν w K H b} (h : hsat ν w K H) (hb : w.heap.size ≤ b) : H b = none := by
 cases hh : H b with
 | none => rfl
 | some r => have := h.lt hh; omega
inductive EV where
 | h (x : HV)
 | lp (k off : Nat)
 deriving Inhabited
inductive Opd where
 | s (t : Nat)
 | c (v : Value)
 | f (g : Nat)
 | g (j : Nat)
 deriving Inhabited
def lk {α : Type} : List (Nat × α) → Nat → Option α
 | [], _ => none
 | (k, h) :: r, t => if k = t then some h else lk r t
def upd {α : Type} (f : Nat → Option α) (d : Nat) (x : α) : Nat → Option α := fun i => if d = i then some x else f i
structure Env where
 sl : Nat → Option EV
 bx : Nat → Option (List HV)
def Env.get (e : Env) (t : Nat) : Option EV := e.sl t
def Env.box (e : Env) (k : Nat) : Option (List HV) := e.bx k
def Env.put (e : Env) (d : Option Nat) (x : EV) : Env :=
 match d with
 | some d => ⟨upd e.sl d x, e.bx⟩
 | none => e
def Env.setb (e : Env) (k : Nat) (cs : List HV) : Env := ⟨e.sl, upd e.bx k cs⟩
def Env.of (sl : List (Nat × EV)) (bx : List (Nat × List HV)) : Env := ⟨lk sl, lk bx⟩
def Env.opd (e : Env) : Opd → Option EV
 | .s t => e.get t
 | .c v => some (.h (.v v))
 | .f g => some (.h (.fn g []))
 | .g j => some (.h (.rp (tabOf j)))
def Env.hv (e : Env) (x : Opd) : Option HV :=
 match e.opd x with
 | some (.h h) => some h
 | _ => none
def Env.hvs (e : Env) : List Opd → Option (List HV)
 | [] => some []
 | x :: xs => match e.hv x, e.hvs xs with
   | some h, some hs => some (h :: hs)
   | _, _ => none
def Heap.upd (H : Heap) (b : Nat) (r : Option Res) : Heap := fun a => if a = b then r else H a
def Weak (h h' : HV) : Prop := ∀ ν K w u, rep ν K w h u → rep ν K w h' u
def WeakL : List HV → List HV → Prop
 | [], [] => True
 | a :: as, b :: bs => Weak a b ∧ WeakL as bs
 | _, _ => False
def EWeak : EV → EV → Prop
 | .h a, .h b => Weak a b
 | _, _ => False
def RWeak : Res → Res → Prop
 | .obj cs', .obj cs => WeakL cs' cs ∧ cs.all HV.one = true
 | _, _ => False
def Heap.sub (H H' : Heap) : Prop := ∀ b r, H b = some r → ∃ r', H' b = some r' ∧ (r' = r ∨ RWeak r' r)
def setL {α : Type} : List α → Nat → List α → List α
 | cs, _, [] => cs
 | cs, off, v :: vs => setL (cs.set off v) (off + 1) vs
def intOp (op : BinOp) (k : IntKind) (a : Int) (k' : IntKind) (b : Int) : Option HV :=
 match op with
 | .add => if k = k' then some (.v (.int k (k.wrap (a + b)))) else none
 | .sub => if k = k' then some (.v (.int k (k.wrap (a - b)))) else none
 | .mul => if k = k' then some (.v (.int k (k.wrap (a * b)))) else none
 | .quo => if k = k' ∧ b ≠ 0 then some (.v (.int k (k.wrap (a.tdiv b)))) else none
 | .rem => if k = k' ∧ b ≠ 0 then some (.v (.int k (a.tmod b))) else none
 | .and => if k = k' then some (.v (.int k (k.wrap (BitVec.ofInt k.bits a &&& BitVec.ofInt k.bits b).toNat))) else none
 | .or => if k = k' then some (.v (.int k (k.wrap (BitVec.ofInt k.bits a ||| BitVec.ofInt k.bits b).toNat))) else none
 | .xor => if k = k' then some (.v (.int k (k.wrap (BitVec.ofInt k.bits a ^^^ BitVec.ofInt k.bits b).toNat))) else none
 | .andNot => if k = k' then some (.v (.int k (k.wrap (BitVec.ofInt k.bits a &&& ~~~BitVec.ofInt k.bits b).toNat))) else none
 | .shl => if 0 ≤ b then some (.v (.int k (k.wrap (a * 2 ^ (min b.toNat k.bits))))) else none
 | .shr => if 0 ≤ b then some (.v (.int k (a.fdiv (2 ^ (min b.toNat k.bits))))) else none
 | .eql => if k = k' then some (.v (.bool (a == b))) else none
 | .neq => if k = k' then some (.v (.bool (a != b))) else none
 | .lss => if k = k' then some (.v (.bool (decide (a < b)))) else none
 | .leq => if k = k' then some (.v (.bool (decide (a ≤ b)))) else none
 | .gtr => if k = k' then some (.v (.bool (decide (a > b)))) else none
 | .geq => if k = k' then some (.v (.bool (decide (a ≥ b)))) else none
def strOp (op : BinOp) (x y : ByteArray) : Option HV :=
 match op with
 | .add => if x.size + y.size ≤ 9223372036854775807 then some (.v (.string (x ++ y))) else none
 | .eql => some (.v (.bool (x.toList == y.toList)))
 | .neq => some (.v (.bool (!(x.toList == y.toList))))
 | .lss => some (.v (.bool (Op.bytesLess x.toList y.toList)))
 | .leq => some (.v (.bool (Op.bytesLess x.toList y.toList || x.toList == y.toList)))
 | .gtr => some (.v (.bool (!(Op.bytesLess x.toList y.toList || x.toList == y.toList))))
 | .geq => some (.v (.bool (!(Op.bytesLess x.toList y.toList))))
 | _ => none
inductive Lf where
 | b | i | s
 deriving DecidableEq, Inhabited
def eqs (k : Lf) (x y : HV) : Option Bool :=
 match k, x, y with
 | .i, .v (.int k a), .v (.int k' b) => if k = k' then some (a == b) else none
 | .b, .v (.bool a), .v (.bool b) => some (a == b)
 | .s, .v (.string a), .v (.string b) => some (a == b)
 | _, _, _ => none
def eqL : List Lf → List HV → List HV → Option Bool
 | [], [], [] => some true
 | k :: ks, x :: xs, y :: ys => match eqs k x y, eqL ks xs ys with
   | some a, some b => some (a && b)
   | _, _ => none
 | _, _, _ => none
inductive EqK where
 | bool | ptr | fnc | slc | ag (ks : List Lf)
 deriving DecidableEq, Inhabited
def eqv (k : EqK) (x y : HV) : Option Bool :=
 match k with
 | .bool => match x, y with
   | .v (.bool a), .v (.bool b) => some (a == b)
   | _, _ => none
 | .ag ks => match x, y with
   | .ag xs, .ag ys => eqL ks xs ys
   | _, _ => none
 | .ptr => match x, y with
   | .v (.pointer none), .v (.pointer b) => some b.isNone
   | .v (.pointer (some _)), .v (.pointer none) => some false
   | .rp _, .v (.pointer none) => some false
   | _, _ => none
 | .fnc => match x, y with
   | .v .nilFunc, .v .nilFunc => some true
   | .fn _ _, .v .nilFunc => some false
   | _, _ => none
 | .slc => match x, y with
   | .v (.slice none _ _), .v (.slice none _ _) => some true
   | .sl _ sz (_ :: _), .v (.slice none _ _) => if sz = 0 then none else some false
   | _, _ => none
inductive NdOp where
 | isnil (ne : Bool)
 | cap
 | b2s | s2b
 | ixb | cntb
 deriving DecidableEq, Inhabited
def byteHV (b : UInt8) : HV := .v (.int .u8 b.toNat)
def bytesHV (s : ByteArray) : List HV := s.data.toList.map byteHV
def unbytes : List HV → Option (List UInt8)
 | [] => some []
 | .v (.int .u8 n) :: es => if 0 ≤ n ∧ n ≤ 255 then (unbytes es).map (n.toNat.toUInt8 :: ·) else none
 | _ => none
theorem unbytes_ok : ∀ {es : List HV} {l : List UInt8}, unbytes es = some l → es = bytesHV ⟨l.toArray⟩
 | [], l, h => by simp only [unbytes, Option.some.injEq] at h; subst h; rfl
 | x :: es, l, h => by
   unfold unbytes at h
   split at h
   · rename_i h1; cases h1
   · rename_i n es' h1
     cases h1
     split at h
     · rename_i hn
       cases hu : unbytes es with
       | none => simp [hu] at h
       | some l' =>
         simp only [hu, Option.map_some, Option.some.injEq] at h
         subst h
         have := unbytes_ok hu
         simp only [bytesHV, List.map_cons] at this ⊢
         rw [this]
         congr 1
         simp only [byteHV, HV.v.injEq, Value.int.injEq, true_and]
         have : n.toNat.toUInt8.toNat = n.toNat := by simp [Nat.toUInt8]; omega
         rw [this]; omega
     · cases h
   · cases h
def ndK (f : NdOp) (hs : List HV) (H : Heap) (K : HV → Prop) : Prop :=
 match f, hs with
 | .isnil ne, [.v (.slice none _ _)] => K (.v (.bool (!ne)))
 | .isnil ne, [.sl _ _ es] => ∀ t, (t = true → es = []) → K (.v (.bool (if ne then !t else t)))
 | .cap, [.v (.slice _ _ c)] => K (.v (.int .i64 c))
 | .cap, [.sl _ _ es] => ∀ c : Nat, es.length ≤ c → c ≤ maxLen → K (.v (.int .i64 c))
 | .b2s, [.sl _ 1 es] => ∃ s, es = bytesHV s ∧ K (.v (.string s))
 | .b2s, [.v (.slice none 0 0)] => K (.v (.string ⟨#[]⟩))
 | .b2s, [.v (.slice (some ⟨b, off, none⟩) n _)] => match H b with
   | some (.obj cs) => off + n ≤ cs.length ∧ ∃ s, (cs.drop off).take n = bytesHV s ∧ K (.v (.string s))
   | _ => False
 | .ixb, [.v (.string s), .v (.int .u8 c)] => K (.v (.int .i64 (Lib.indexByte s.data.toList c.toNat.toUInt8)))
 | .cntb, [.v (.string s), .v (.int .u8 c)] => K (.v (.int .i64 (Lib.countByte s.data.toList c.toNat.toUInt8 : Nat)))
 | .s2b, [.v (.string s)] => s.size ≤ 140737488355328 ∧ K (.sl .no 1 (bytesHV s))
 | _, _ => False
theorem ndK_mono {f : NdOp} {hs : List HV} {H : Heap} {K K' : HV → Prop} (hK : ∀ h, K h → K' h) (h : ndK f hs H K) : ndK f hs H K' := by
 unfold ndK at h ⊢
 split at h
 · exact hK _ h
 · exact fun t ht => hK _ (h t ht)
 · exact hK _ h
 · exact fun c h1 h2 => hK _ (h c h1 h2)
 · obtain ⟨s, h1, h2⟩ := h; exact ⟨s, h1, hK _ h2⟩
 · exact hK _ h
 · rename_i b off n _
   show (match H b with
     | some (.obj cs) => off + n ≤ cs.length ∧ ∃ s, (cs.drop off).take n = bytesHV s ∧ K' (.v (.string s))
     | _ => False)
   revert h
   split
   · rintro ⟨h0, s, h1, h2⟩
     exact ⟨h0, s, h1, hK _ h2⟩
   · exact id
 · exact hK _ h
 · exact hK _ h
 · exact ⟨h.1, hK _ h.2⟩
 · exact h.elim
def mkv (agg : Bool) (cs : List HV) : Option HV :=
 if agg then some (.ag cs) else match cs with
   | [h] => some h
   | _ => none
def loadv (agg : Bool) (n off : Nat) (cs : List HV) : Option HV :=
 if off + n ≤ cs.length then mkv agg ((cs.drop off).take n) else none
inductive MOp where
 | mk
 | lkp (s ok agg : Bool) (zero : List HV)
 | upd (s : Bool)
 | del (s : Bool)
 | len
 | rng
 | nxt
 | ent
 | cln
 | mki (t : Nat)
 | tas (t : Nat)
 | isnil (ne : Bool)
 | mkm (g : Nat)
 | bldA (sz : Nat)
 | idxA (n sz : Nat) (agg : Bool)
 deriving Inhabited
abbrev MEnt := Value × HV × Nat
def keq (s : Bool) : Value → Value → Option Bool
 | .string a, .string b => if s then some (a == b) else none
 | .int k a, .int k' b => if s then none else if k = k' then some (a == b) else none
 | _, _ => none
def mfind (s : Bool) (k : Value) : List MEnt → Nat → Option (Option (Nat × HV))
 | [], _ => some none
 | e :: es, i => match keq s k e.1 with
   | some true => some (some (i, e.2.1))
   | some false => mfind s k es (i + 1)
   | none => none
def isKey (s : Bool) : Value → Bool
 | .string _ => s
 | .int _ _ => !s
 | _ => false
def mzero (agg : Bool) (z : List HV) : HV := if agg then .ag z else z.headD (.v .nilFunc)
def okd (ok : Bool) (h : HV) (b : Bool) : HV := if ok then .tu [h, .v (.bool b)] else h
def mres (o : Option (Option (Nat × HV))) (P : Nat × HV → Prop) (Q : Prop) : Prop := match o with
 | some (some p) => P p
 | some none => Q
 | none => False
theorem mres_mono {o : Option (Option (Nat × HV))} {P P' : Nat × HV → Prop} {Q Q' : Prop} (h1 : ∀ a, P a → P' a) (h2 : Q → Q') (h : mres o P Q) : mres o P' Q' := by
 unfold mres at h ⊢
 split at h
 · exact h1 _ h
 · exact h2 h
 · exact h
def mopK (f : MOp) (hs : List HV) (H : Heap) (K : HV → Heap → Prop) : Prop :=
 match f, hs with
 | .mk, [] => ∀ b, H b = none → K (.v (.map (some b))) (H.upd b (some (.mp [] 0)))
 | .lkp s ok agg z, [.v (.map none), .v k] => isKey s k = true ∧ ∃ h', Weak (okd ok (mzero agg z) false) h' ∧ K h' H
 | .lkp s ok agg z, [.v (.map (some b)), .v k] => isKey s k = true ∧ ∃ es c, H b = some (.mp es c) ∧ mres (mfind s k es 0) (fun p => K (okd ok p.2 true) H) (∃ h', Weak (okd ok (mzero agg z) false) h' ∧ K h' H)
 | .upd s, [.v (.map (some b)), .v k, h] => isKey s k = true ∧ ∃ es c, H b = some (.mp es c) ∧ mres (mfind s k es 0) (fun p => K (.v Go.undef) (H.upd b (some (.mp (es.modify p.1 fun e => (k, h, e.2.2)) c)))) (K (.v Go.undef) (H.upd b (some (.mp (es ++ [(k, h, c)]) (c + 1)))))
 | .del s, [.v (.map none), .v k] => isKey s k = true ∧ K (.tu []) H
 | .del s, [.v (.map (some b)), .v k] => isKey s k = true ∧ ∃ es c, H b = some (.mp es c) ∧ mres (mfind s k es 0) (fun p => K (.tu []) (H.upd b (some (.mp (es.eraseIdx p.1) c)))) (K (.tu []) (H.upd b (some (.mp es c))))
 | .len, [.v (.map none)] => K (.v (.int .i64 0)) H
 | .len, [.v (.map (some b))] => ∃ es c, H b = some (.mp es c) ∧ K (.v (.int .i64 es.length)) H
 | .rng, [.v (.map none)] => ∀ b, H b = none → K (.v (.pointer (some ⟨b, 0, none⟩))) (H.upd b (some (.it none 0 [] 0)))
 | .rng, [.v (.map (some m))] => ∃ es c, H m = some (.mp es c) ∧ ∀ b, H b = none → K (.v (.pointer (some ⟨b, 0, none⟩))) (H.upd b (some (.it (some m) c [] c)))
 | .nxt, [.v (.pointer (some ⟨b, 0, none⟩))] => match H b with
   | some (.it none _ _ _) => K (.tu [.v (.bool false)]) H
   | some (.it (some m) since seen last) => ∃ es c, H m = some (.mp es c) ∧ (seen = [] ∨ es = [] ∨ ∃ e ∈ es, e.2.2 < last) ∧
       (∀ e ∈ es, e.2.2 ∉ seen → K (.tu [.v (.bool true), .v e.1, e.2.1]) (H.upd b (some (.it (some m) since (seen ++ [e.2.2]) c)))) ∧
       ((∀ e ∈ es, e.2.2 < since → e.2.2 ∈ seen) → K (.tu [.v (.bool false)]) H)
   | _ => False
 | .ent, [.v (.pointer (some ⟨b, 0, none⟩))] => ∃ m since seen n c es e, H b = some (.it (some m) since (seen ++ [n]) c) ∧ H m = some (.mp es c) ∧ es.find? (fun e => e.2.2 == n) = some e ∧ K (.tu [.v e.1, e.2.1]) H
 | .cln, [.v (.iface t (.map (some m)))] => ∃ es c, H m = some (.mp es c) ∧ ∀ b, H b = none → K (.v (.iface t (.map (some b)))) (H.upd b (some (.mp es c)))
 | .mki t, [.v x] => K (.v (.iface t x)) H
 | .tas t, [.v (.iface t' x)] => t = t' ∧ K (.v x) H
 | .isnil ne, [.v (.map m)] => K (.v (.bool (if ne then m.isSome else m.isNone))) H
 | .mkm g, [r] => K (.fm g r) H
 | .bldA sz, hs => hs.all HV.el = true ∧ (∀ h ∈ hs, h.ncells = sz) ∧ K (.ag (hs.flatMap HV.cells)) H
 | .idxA n sz agg, [.ag cs, .v (.int _ i)] => 0 ≤ i ∧ i < n ∧ ∃ h, loadv agg sz (i.toNat * sz) cs = some h ∧ K h H
 | _, _ => False
theorem mopK_mono {f : MOp} {hs : List HV} {H : Heap} {K K' : HV → Heap → Prop} (hK : ∀ h H, K h H → K' h H) (h : mopK f hs H K) : mopK f hs H K' := by
 unfold mopK at h ⊢
 split at h
 · exact fun b hb => hK _ _ (h b hb)
 · obtain ⟨h0, h', h1, h2⟩ := h; exact ⟨h0, h', h1, hK _ _ h2⟩
 · obtain ⟨h0, es, c, h1, h2⟩ := h
   exact ⟨h0, es, c, h1, mres_mono (fun _ => hK _ _) (fun ⟨h', h3, h4⟩ => ⟨h', h3, hK _ _ h4⟩) h2⟩
 · obtain ⟨h0, es, c, h1, h2⟩ := h
   exact ⟨h0, es, c, h1, mres_mono (fun _ => hK _ _) (hK _ _) h2⟩
 · exact ⟨h.1, hK _ _ h.2⟩
 · obtain ⟨h0, es, c, h1, h2⟩ := h
   exact ⟨h0, es, c, h1, mres_mono (fun _ => hK _ _) (hK _ _) h2⟩
 · exact hK _ _ h
 · obtain ⟨es, c, h1, h2⟩ := h; exact ⟨es, c, h1, hK _ _ h2⟩
 · exact fun b hb => hK _ _ (h b hb)
 · obtain ⟨es, c, h1, h2⟩ := h; exact ⟨es, c, h1, fun b hb => hK _ _ (h2 b hb)⟩
 · split at h
   · exact hK _ _ h
   · obtain ⟨es, c, h1, h2, h3, h4⟩ := h
     exact ⟨es, c, h1, h2, fun e he hn => hK _ _ (h3 e he hn), fun hn => hK _ _ (h4 hn)⟩
   · exact h.elim
 · obtain ⟨m, since, seen, n, c, es, e, h1, h2, h3, h4⟩ := h; exact ⟨m, since, seen, n, c, es, e, h1, h2, h3, hK _ _ h4⟩
 · obtain ⟨es, c, h1, h2⟩ := h; exact ⟨es, c, h1, fun b hb => hK _ _ (h2 b hb)⟩
 · exact hK _ _ h
 · exact ⟨h.1, hK _ _ h.2⟩
 · exact hK _ _ h
 · exact hK _ _ h
 · exact ⟨h.1, h.2.1, hK _ _ h.2.2⟩
 · obtain ⟨h1, h2, x, h3, h4⟩ := h; exact ⟨h1, h2, x, h3, hK _ _ h4⟩
 · exact h.elim
inductive HOp where
 | m (f : MOp)
 | mks (sz bytes : Nat) (zero : List HV)
 | copy (sz : Nat)
 | clear (sz : Nat) (zero : List HV)
 | ovl (sz : Nat)
 | bsl (sz : Nat)
 | appz (sz bytes : Nat) (zero : List HV)
 | mark
 deriving Inhabited
def rdm (H : Heap) (sz : Nat) : HV → Option (Nat × List HV)
 | .sl _ sz' es => if sz' = sz then some (es.length, es.flatMap HV.cells) else none
 | .v (.slice none 0 0) => some (0, [])
 | .v (.slice (some ⟨b, off, none⟩) n _) => match H b with
   | some (.obj cs) => if off + n * sz ≤ cs.length then some (n, (cs.drop off).take (n * sz)) else none
   | _ => none
 | .v (.string s) => if sz = 1 then some (s.size, bytesHV s) else none
 | _ => none
def newrow (H : Heap) (sz bytes n : Nat) (cs : List HV) (K : HV → Heap → Prop) : Prop :=
 n * bytes ≤ 140737488355328 ∧ ∀ b c zs, H b = none → n ≤ c → c ≤ maxLen → zs.length = (c - n) * sz → zs.all HV.one = true →
   K (.v (.slice (some ⟨b, 0, none⟩) n c)) (H.upd b (some (.obj (cs ++ zs))))
def appK (sz bytes : Nat) (x y : HV) (H : Heap) (K : HV → Heap → Prop) : Prop :=
 match rdm H sz y with
 | none => False
 | some (m, ys) => match x with
   | .v (.slice none 0 0) => (m = 0 → K x H) ∧ (m ≠ 0 → newrow H sz bytes m ys K)
   | .sl .full sz' xs => sz' = sz ∧ (m = 0 → K x H) ∧ (m ≠ 0 → newrow H sz bytes (xs.length + m) (xs.flatMap HV.cells ++ ys) K)
   | .v (.slice (some ⟨b, off, none⟩) n c) => ∃ cs, H b = some (.obj cs) ∧ n ≤ c ∧ off + c * sz ≤ cs.length ∧
       (n + m ≤ c → K (.v (.slice (some ⟨b, off, none⟩) (n + m) c)) (H.upd b (some (.obj (setL cs (off + n * sz) ys))))) ∧
       (c < n + m → newrow H sz bytes (n + m) ((cs.drop off).take (n * sz) ++ ys) K)
   | _ => False
def hopK (f : HOp) (hs : List HV) (H : Heap) (K : HV → Heap → Prop) : Prop :=
 match f, hs with
 | .mks sz bytes zero, [.v (.int .i64 l), .v (.int .i64 c)] => 0 ≤ l ∧ l ≤ c ∧ c * bytes ≤ 140737488355328 ∧ zero.length = sz ∧
     ∀ b, H b = none → K (.v (.slice (some ⟨b, 0, none⟩) l.toNat c.toNat)) (H.upd b (some (.obj (List.replicate c.toNat zero).flatten)))
 | .copy sz, [.v (.slice (some ⟨b, off, none⟩) n _), y] => match rdm H sz y, H b with
   | some (m, ys), some (.obj cs) => off + n * sz ≤ cs.length ∧ K (.v (.int .i64 (min m n : Nat))) (H.upd b (some (.obj (setL cs off (ys.take (min m n * sz))))))
   | _, _ => False
 | .clear sz zero, [.v (.slice (some ⟨b, off, none⟩) n _)] => match H b with
   | some (.obj cs) => off + n * sz ≤ cs.length ∧ zero.length = sz ∧ K (.tu []) (H.upd b (some (.obj (setL cs off (List.replicate n zero).flatten))))
   | _ => False
 | .clear _ _, [.v (.slice none 0 0)] => K (.tu []) H
 | .ovl sz, [.sl _ sz' es, .v (.slice (some ⟨b, _, none⟩) _ _)] => es ≠ [] ∧ sz' = sz ∧ 0 < sz ∧ (∃ cs, H b = some (.obj cs)) ∧ K (.v (.bool false)) H
 | .appz sz bytes zero, [.v (.slice none 0 0), .v (.int .i64 k)] => 0 < k ∧ zero.length = sz ∧ newrow H sz bytes k.toNat (List.replicate k.toNat zero).flatten K
 | .appz sz bytes zero, [.v (.slice (some ⟨b, off, none⟩) n c), .v (.int .i64 k)] => match H b with
   | some (.obj cs) => 0 < k ∧ c < n + k.toNat ∧ n ≤ c ∧ off + n * sz ≤ cs.length ∧ zero.length = sz ∧ newrow H sz bytes (n + k.toNat) ((cs.drop off).take (n * sz) ++ (List.replicate k.toNat zero).flatten) K
   | _ => False
 | .bsl sz, hs => hs.all HV.el = true ∧ (∀ h ∈ hs, h.ncells = sz) ∧ ∀ b, H b = none → K (.v (.slice (some ⟨b, 0, none⟩) hs.length hs.length)) (H.upd b (some (.obj (hs.flatMap HV.cells))))
 | .mark, [.v (.slice (some ⟨b, 0, none⟩) n c)] => ∃ cs, H b = some (.obj cs) ∧ cs.length = n ∧ n ≤ c ∧ c ≤ maxLen ∧ K (.sl .no 1 cs) (H.upd b none)
 | .m f, hs => mopK f hs H K
 | _, _ => False
theorem newrow_mono {H : Heap} {sz bytes n : Nat} {cs : List HV} {K K' : HV → Heap → Prop} (hK : ∀ h H, K h H → K' h H) (h : newrow H sz bytes n cs K) : newrow H sz bytes n cs K' :=
 ⟨h.1, fun b c zs h1 h2 h3 h4 h5 => hK _ _ (h.2 b c zs h1 h2 h3 h4 h5)⟩
theorem appK_mono {sz bytes : Nat} {x y : HV} {H : Heap} {K K' : HV → Heap → Prop} (hK : ∀ h H, K h H → K' h H) (h : appK sz bytes x y H K) : appK sz bytes x y H K' := by
 unfold appK at h ⊢
 split at h
 · exact h.elim
 · split at h
   · exact ⟨fun hm => hK _ _ (h.1 hm), fun hm => newrow_mono hK (h.2 hm)⟩
   · exact ⟨h.1, fun hm => hK _ _ (h.2.1 hm), fun hm => newrow_mono hK (h.2.2 hm)⟩
   · obtain ⟨cs, h1, h2, h3, h4, h5⟩ := h
     exact ⟨cs, h1, h2, h3, fun hm => hK _ _ (h4 hm), fun hm => newrow_mono hK (h5 hm)⟩
   · exact h.elim
theorem hopK_mono {f : HOp} {hs : List HV} {H : Heap} {K K' : HV → Heap → Prop} (hK : ∀ h H, K h H → K' h H) (h : hopK f hs H K) : hopK f hs H K' := by
 unfold hopK at h ⊢
 split at h
 · exact ⟨h.1, h.2.1, h.2.2.1, h.2.2.2.1, fun b hb => hK _ _ (h.2.2.2.2 b hb)⟩
 · split at h
   · exact ⟨h.1, hK _ _ h.2⟩
   · exact h.elim
 · split at h
   · exact ⟨h.1, h.2.1, hK _ _ h.2.2⟩
   · exact h.elim
 · exact hK _ _ h
 · exact ⟨h.1, h.2.1, h.2.2.1, h.2.2.2.1, hK _ _ h.2.2.2.2⟩
 · exact ⟨h.1, h.2.1, newrow_mono hK h.2.2⟩
 · split at h
   · exact ⟨h.1, h.2.1, h.2.2.1, h.2.2.2.1, h.2.2.2.2.1, newrow_mono hK h.2.2.2.2.2⟩
   · exact h.elim
 · exact ⟨h.1, h.2.1, fun b hb => hK _ _ (h.2.2 b hb)⟩
 · obtain ⟨cs, h1, h2, h3, h4, h5⟩ := h
   exact ⟨cs, h1, h2, h3, h4, hK _ _ h5⟩
 · exact mopK_mono hK h
 · exact h.elim
inductive SOp where
 | mv (x : Opd)
 | pick (c a b : Opd)
 | int (op : BinOp) (x y : Opd)
 | str (op : BinOp) (x y : Opd)
 | eq (k : EqK) (ne : Bool) (x y : Opd)
 | not (x : Opd)
 | neg (x : Opd)
 | conv (k : IntKind) (x : Opd)
 | idc (x : Opd)
 | b2c (x : Opd)
 | alloc (loc : Option Nat) (cs : List HV)
 | box (loc : Option Nat) (n : Nat) (x : Opd)
 | build (zero : List HV) (ps : List (Nat × Nat × Opd))
 | bslice (sz : Nat) (ps : List Opd)
 | load (agg : Bool) (n : Nat) (x : Opd)
 | store (n : Nat) (a x : Opd)
 | nilc (x : Opd)
 | fld (off : Nat) (x : Opd)
 | field (agg : Bool) (off n : Nat) (x : Opd)
 | idx (sz : Nat) (x i : Opd)
 | aidx (len sz : Nat) (x i : Opd)
 | sidx (x i : Opd)
 | len (x : Opd)
 | slen (x : Opd)
 | app (sz bytes : Nat) (x y : Opd)
 | call (g : Nat) (args : List Opd)
 | callv (x : Opd) (args : List Opd)
 | mkfn (g : Nat) (caps : List Opd)
 | ext (x : Opd) (i : Nat)
 | slc (sz : Nat) (x : Opd) (lo hi mx : Option Opd)
 | ssl (x : Opd) (lo hi : Option Opd)
 | mm (mx : Bool) (x y : Opd)
 | nd (f : NdOp) (xs : List Opd)
 | hop (f : HOp) (xs : List Opd)
 | lkc (s ok agg : Bool) (zero : List HV) (x k : Opd)
 | com (x : Opd)
 | asl (n sz : Nat) (x : Opd) (lo hi : Option Opd)
 | dead
 deriving Inhabited
def bnd (e : Env) (d : Nat) : Option Opd → Option Int
 | none => some d
 | some x => match e.hv x with
   | some (.v (.int _ n)) => some n
   | _ => none
def buildv : List HV → List (Nat × Nat × Option HV) → Option (List HV)
 | z, [] => some z
 | z, (off, n, some h) :: r => if h.ncells = n ∧ h.el = true ∧ off + n ≤ z.length then buildv (setL z off h.cells) r else none
 | _, (_, _, none) :: _ => none
def rdv : HV → Option (Nat × List HV)
 | .sl _ sz es => some (sz, es)
 | .v (.slice none 0 0) => some (0, [])
 | _ => none
def SOp.ev (o : SOp) (e : Env) (H : Heap) : Option EV :=
 match o with
 | .mv x => e.opd x
 | .pick c a b => match e.hv c with
   | some (.v (.bool t)) => if t then e.opd a else e.opd b
   | _ => none
 | .int op x y => match e.hv x, e.hv y with
   | some (.v (.int k a)), some (.v (.int k' b)) => (intOp op k a k' b).map .h
   | _, _ => none
 | .str op x y => match e.hv x, e.hv y with
   | some (.v (.string a)), some (.v (.string b)) => (strOp op a b).map .h
   | _, _ => none
 | .eq k ne x y => match e.hv x, e.hv y with
   | some a, some b => (eqv k a b).map fun t => .h (.v (.bool (if ne then !t else t)))
   | _, _ => none
 | .not x => match e.hv x with
   | some (.v (.bool t)) => some (.h (.v (.bool !t)))
   | _ => none
 | .neg x => match e.hv x with
   | some (.v (.int k n)) => some (.h (.v (.int k (k.wrap (0 - n)))))
   | _ => none
 | .conv k x => match e.hv x with
   | some (.v (.int _ n)) => some (.h (.v (.int k (k.wrap n))))
   | _ => none
 | .idc x => match e.hv x with
   | some (.v (.string s)) => some (.h (.v (.string s)))
   | _ => none
 | .b2c x => match e.hv x with
   | some (.sl _ 1 es) => (unbytes es).map fun l => .h (.v (.string ⟨l.toArray⟩))
   | some (.v (.slice none 0 0)) => some (.h (.v (.string ⟨#[]⟩)))
   | _ => none
 | .build z ps => (buildv z (ps.map fun p => (p.1, p.2.1, e.hv p.2.2))).map fun cs => .h (.ag cs)
 | .load agg n x => match e.opd x with
   | some (.h (.v (.pointer (some ⟨b, off, none⟩)))) => match H b with
     | some (.obj cs) => (loadv agg n off cs).map .h
     | _ => none
   | some (.h (.rp cs)) => (loadv agg n 0 cs).map .h
   | some (.lp k off) => match e.box k with
     | some cs => (loadv agg n off cs).map .h
     | none => none
   | _ => none
 | .nilc x => match e.opd x with
   | some (.h (.v (.pointer (some a)))) => some (.h (.v (.pointer (some a))))
   | some (.h (.rp cs)) => some (.h (.rp cs))
   | some (.lp k off) => some (.lp k off)
   | some (.h (.fn g caps)) => some (.h (.fn g caps))
   | some (.h (.fm g r)) => some (.h (.fm g r))
   | _ => none
 | .fld off x => match e.opd x with
   | some (.h (.v (.pointer (some ⟨b, o, none⟩)))) => some (.h (.v (.pointer (some ⟨b, o + off, none⟩))))
   | some (.h (.rp cs)) => if off ≤ cs.length then some (.h (.rp (cs.drop off))) else none
   | some (.lp k o) => some (.lp k (o + off))
   | _ => none
 | .field agg off n x => match e.hv x with
   | some (.ag cs) => (loadv agg n off cs).map .h
   | _ => none
 | .idx sz x i => match e.hv x, e.hv i with
   | some (.sl _ sz' es), some (.v (.int _ n)) => if sz' = sz ∧ 0 ≤ n then (es[n.toNat]?).map fun h => .h (.rp h.cells) else none
   | some (.v (.slice (some ⟨b, off, none⟩) l _)), some (.v (.int _ n)) => if 0 ≤ n ∧ n < l then some (.h (.v (.pointer (some ⟨b, off + n.toNat * sz, none⟩)))) else none
   | _, _ => none
 | .aidx l sz x i => match e.opd x, e.hv i with
   | some (.h (.v (.pointer (some ⟨b, off, none⟩)))), some (.v (.int _ n)) => if 0 ≤ n ∧ n < l then some (.h (.v (.pointer (some ⟨b, off + n.toNat * sz, none⟩)))) else none
   | some (.lp k off), some (.v (.int _ n)) => if 0 ≤ n ∧ n < l then some (.lp k (off + n.toNat * sz)) else none
   | some (.h (.rp cs)), some (.v (.int _ n)) => if 0 ≤ n ∧ n < l ∧ n.toNat * sz ≤ cs.length then some (.h (.rp (cs.drop (n.toNat * sz)))) else none
   | _, _ => none
 | .sidx x i => match e.hv x, e.hv i with
   | some (.v (.string s)), some (.v (.int _ n)) => if h : 0 ≤ n ∧ n.toNat < s.size then some (.h (.v (.int .u8 (s[n.toNat]'h.2).toNat))) else none
   | _, _ => none
 | .len x => match e.hv x with
   | some (.sl _ _ es) => some (.h (.v (.int .i64 es.length)))
   | some (.v (.slice _ n _)) => some (.h (.v (.int .i64 n)))
   | _ => none
 | .slen x => match e.hv x with
   | some (.v (.string s)) => some (.h (.v (.int .i64 s.size)))
   | _ => none
 | .mkfn g caps => (e.hvs caps).map fun hs => .h (.fn g hs)
 | .ext x i => match e.hv x with
   | some (.tu vs) => (vs[i]?).map .h
   | _ => none
 | .ssl x lo hi => match e.hv x with
   | some (.v (.string s)) => match bnd e 0 lo, bnd e s.size hi with
     | some l, some h => if 0 ≤ l ∧ l ≤ h ∧ h ≤ s.size then some (.h (.v (.string (s.extract l.toNat h.toNat)))) else none
     | _, _ => none
   | _ => none
 | .slc sz x lo hi mx => match e.hv x with
   | some (.v (.slice none 0 0)) => match bnd e 0 lo, bnd e 0 hi, bnd e 0 mx with
     | some l, some h, some m => if l = 0 ∧ h = 0 ∧ m = 0 then some (.h (.v (.slice none 0 0))) else none
     | _, _, _ => none
   | some (.v (.slice (some ⟨b, off, none⟩) n c)) => match bnd e 0 lo, bnd e n hi, bnd e c mx with
     | some l, some h, some m => if 0 ≤ l ∧ l ≤ h ∧ h ≤ m ∧ m ≤ c then some (.h (.v (.slice (some ⟨b, if m = l then off else off + l.toNat * sz, none⟩) (h.toNat - l.toNat) (m.toNat - l.toNat)))) else none
     | _, _, _ => none
   | some (.sl tk sz' es) => match bnd e 0 lo, bnd e es.length hi with
     | some l, some h => if sz' = sz ∧ 0 ≤ l ∧ l ≤ h ∧ h ≤ es.length then
         match mx with
         | none => some (.h (.sl (if h = es.length ∧ l = 0 then tk else .no) sz ((es.drop l.toNat).take (h.toNat - l.toNat))))
         | some m => match e.hv m with
           | some (.v (.int _ m)) => if m = h then some (.h (.sl .full sz ((es.drop l.toNat).take (h.toNat - l.toNat)))) else none
           | _ => none
       else none
     | _, _ => none
   | _ => none
 | .com x => match e.hv x with
   | some (.v (.int k n)) => (intOp .xor k (if k.signed then -1 else k.max) k n).map .h
   | _ => none
 | .asl n sz x lo hi => match e.hv x with
   | some (.v (.pointer (some ⟨b, off, none⟩))) => match bnd e 0 lo, bnd e n hi with
     | some l, some h => if 0 ≤ l ∧ l ≤ h ∧ h ≤ n then some (.h (.v (.slice (some ⟨b, if n = l.toNat then off else off + l.toNat * sz, none⟩) (h.toNat - l.toNat) (n - l.toNat)))) else none
     | _, _ => none
   | _ => none
 | .mm mx x y => match e.hv x, e.hv y with
   | some (.v (.int k a)), some (.v (.int k' b)) => if k = k' then some (.h (.v (.int k (if mx then (if b > a then b else a) else (if b < a then b else a))))) else none
   | _, _ => none
 | .lkc s ok agg zero x k => match e.hv x, e.hv k with
   | some (.v (.map (some b))), some (.v kv) => if isKey s kv then match H b with
       | some (.mp es _) => match mfind s kv es 0 with
         | some (some p) => some (.h (okd ok p.2 true))
         | some none => some (.h (okd ok (mzero agg zero) false))
         | none => none
       | _ => none
     else none
   | _, _ => none
 | _ => none
def SOp.calm : SOp → Bool
 | .alloc .. | .box .. | .bslice .. | .store .. | .app .. | .call .. | .callv .. | .nd .. | .hop .. => false
 | _ => true
abbrev SpecT := Nat → List HV → Heap → (HV → Heap → Prop) → Prop
def HV.undef : HV := .v Go.undef
def SOp.step (S : SpecT) (o : SOp) (e : Env) (H : Heap) (K : EV → Env → Heap → Prop) : Prop :=
 match o with
 | .alloc loc cs => match loc with
   | some k => e.box k = none ∧ K (.lp k 0) (e.setb k cs) H
   | none => ∀ b, H b = none → K (.h (.v (.pointer (some ⟨b, 0, none⟩)))) e (H.upd b (some (.obj cs)))
 | .box loc n x => match e.hv x with
   | some h => h.ncells = n ∧ h.el = true ∧ match loc with
     | some k => e.box k = none ∧ K (.lp k 0) (e.setb k h.cells) H
     | none => ∀ b, H b = none → K (.h (.v (.pointer (some ⟨b, 0, none⟩)))) e (H.upd b (some (.obj h.cells)))
   | none => False
 | .bslice sz ps => match e.hvs ps with
   | some hs => hs.all HV.el = true ∧ (∀ h ∈ hs, h.ncells = sz) ∧ K (.h (.sl .full sz hs)) e H
   | none => False
 | .store n a x => match e.hv x with
   | some h => h.ncells = n ∧ h.el = true ∧ match e.opd a with
     | some (.h (.v (.pointer (some ⟨b, off, none⟩)))) => match H b with
       | some (.obj cs) => off + n ≤ cs.length ∧ K (.h .undef) e (H.upd b (some (.obj (setL cs off h.cells))))
       | _ => False
     | some (.lp k off) => match e.box k with
       | some cs => off + n ≤ cs.length ∧ K (.h .undef) (e.setb k (setL cs off h.cells)) H
       | none => False
     | _ => False
   | none => False
 | .app sz bytes x y => (match e.hv x, (e.hv y).bind rdv with
   | some (.v (.slice none 0 0)), some (sz', ys) => (ys ≠ [] → sz' = sz) ∧ (ys = [] → K (.h (.v (.slice none 0 0))) e H) ∧
       (ys ≠ [] → ys.length * bytes ≤ 140737488355328 ∧ ∀ b c, H b = none → K (.h (.sl (.tip b c) sz ys)) e (H.upd b (some (.tip (ys.length * sz) (c * sz)))))
   | some (.sl .full sz1 xs), some (sz', ys) => sz1 = sz ∧ (ys ≠ [] → sz' = sz) ∧ (ys = [] → K (.h (.sl .full sz xs)) e H) ∧
       (ys ≠ [] → (xs.length + ys.length) * bytes ≤ 140737488355328 ∧ ∀ b c, H b = none → K (.h (.sl (.tip b c) sz (xs ++ ys))) e (H.upd b (some (.tip ((xs.length + ys.length) * sz) (c * sz)))))
   | some (.sl (.tip b c) sz1 xs), some (sz', ys) => sz1 = sz ∧ (ys ≠ [] → sz' = sz) ∧ H b = some (.tip (xs.length * sz) (c * sz)) ∧ (xs.length + ys.length) * bytes ≤ 140737488355328 ∧
       ∀ b' c', (b' = b ∨ H b' = none) →
         K (.h (.sl (.tip b' c') sz (xs ++ ys))) e ((H.upd b none).upd b' (some (.tip ((xs.length + ys.length) * sz) (c' * sz))))
   | _, _ => False) ∨ (match e.hv x, e.hv y with
   | some x, some y => appK sz bytes x y H fun h H' => K (.h h) e H'
   | _, _ => False)
 | .call g args => match e.hvs args with
   | some hs => S g hs H (fun h H' => K (.h h) e H')
   | none => False
 | .callv x args => match e.hv x, e.hvs args with
   | some (.fn g caps), some hs => S g (hs ++ caps) H (fun h H' => K (.h h) e H')
   | some (.fm g r), some hs => S g (r :: hs) H (fun h H' => K (.h h) e H')
   | _, _ => False
 | .hop f xs => match e.hvs xs with
   | some hs => hopK f hs H fun h H' => K (.h h) e H'
   | none => False
 | .nd f xs => match e.hvs xs with
   | some hs => ndK f hs H fun h => K (.h h) e H
   | none => False
 | o => match o.ev e H with
   | some x => K x e H
   | none => False
structure SOper where
 dst : Option Nat
 op : SOp
 guard : Option (Nat × Bool)
 deriving Inhabited
def rsem1 (S : SpecT) (o : SOper) (e : Env) (H : Heap) (K : Env → Heap → Prop) : Prop :=
 match o.guard with
 | none => o.op.step S e H fun x e' H' => K (e'.put o.dst x) H'
 | some (t, want) => match e.get t with
   | some (.h (.v (.bool b))) =>
     (b = want → o.op.step S (e.put (some t) (.h (.v (.bool want)))) H fun x e' H' => K (e'.put o.dst x) H') ∧
     (b = !want → K ((e.put (some t) (.h (.v (.bool (!want))))).put o.dst (.h .undef)) H)
   | some (.h (.v (.tuple _))) => K (e.put o.dst (.h .undef)) H
   | _ => False
def rsem (S : SpecT) : List SOper → Env → Heap → (Env → Heap → Prop) → Prop
 | [], e, H, K => K e H
 | o :: os, e, H, K => rsem1 S o e H fun e' H' => rsem S os e' H' K
structure DOper where
 o : SOper
 rc : List Nat
 deriving Inhabited
def rc1 (x : SOper) (e : Env) (H : Heap) : Prop :=
 match x.dst, x.guard with
 | some d, none => x.op.ev e H = e.get d
 | some d, some (t, want) => e.get t = some (.h (.v (.bool want))) → x.op.ev e H = e.get d
 | none, _ => False
def rcok (L : List DOper) : List Nat → Env → Heap → Prop
 | [], _, _ => True
 | z :: zs, e, H => rc1 (L[z]!).o e H ∧ rcok L zs e H
def dsem (S : SpecT) (L : List DOper) : List Nat → Env → Heap → (Env → Heap → Prop) → Prop
 | [], e, H, K => K e H
 | i :: is, e, H, K => rsem1 S (L[i]!).o e H fun e' H' => rcok L (L[i]!).rc e' H' ∧ dsem S L is e' H' K
inductive SC where
 | skip
 | reg (ops : List SOper)
 | dreg (perm : List Nat) (ops : List DOper)
 | seq (a b : SC)
 | cond (c : Opd) (thn els : SC)
 | block (id : Nat) (body : SC)
 | loop (body : SC)
 | exit (id : Nat)
 | ret
 | dfr (ops : List SOper) (x : Opd) (args : List Opd) (gd : Nat) (rest : SC)
 deriving Inhabited
def SC.isD : SC → Bool
 | .seq _ b => b.isD
 | .dfr .. => true
 | _ => false
inductive SEx where
 | normal | exit (id : Nat) | ret
 deriving DecidableEq
structure Env.le (L e : Env) : Prop where
 sl : ∀ t x, L.get t = some x → ∃ x', e.get t = some x' ∧ (x' = x ∨ EWeak x' x)
 bx : ∀ k cs, L.box k = some cs → ∃ cs', e.box k = some cs' ∧ (cs' = cs ∨ WeakL cs' cs ∧ cs.all HV.one = true)
 lp : ∀ t k o, L.get t = some (.lp k o) → (L.box k).isSome = true
inductive SRes where
 | t (s : Nat)
 | cell (s : Nat) (agg : Bool) (n : Nat)
structure SF where
 np : Nat
 N : Nat
 res : List SRes
 body : SC
def SRes.val (e : Env) (H : Heap) : SRes → Option HV
 | .t s => e.hv (.s s)
 | .cell s agg n => match (SOp.load agg n (.s s)).ev e H with
   | some (.h h) => some h
   | _ => none
def resList (e : Env) (H : Heap) : List SRes → Option (List HV)
 | [] => some []
 | r :: rs => match r.val e H, resList e H rs with
   | some h, some hs => some (h :: hs)
   | _, _ => none
def tupled : List HV → HV
 | [h] => h
 | hs => .tu hs
def initE (args : List HV) : Env := ⟨fun t => (args[t]?).map .h, fun _ => none⟩
end Sm
set_option linter.unnecessarySimpa false
namespace Sm
open Go
def repE (ν : Nat → Option Nat) (K : Nat → Nat) (w : World) (μ : Nat → Nat) : EV → Value → Prop
 | .h x, u => rep ν K w x u
 | .lp k off, u => u = .pointer (some ⟨μ k, off, none⟩)
def EV.live (e : Env) : EV → Prop
 | .lp k _ => (e.box k).isSome = true
 | .h _ => True
def boxok (ν : Nat → Option Nat) (B : Nat) (H : Heap) (w : World) (K : Nat → Nat) (b : Nat) (cs : List HV) : Prop :=
 B ≤ b ∧ H b = none ∧ ∃ us T, w.heap[b]? = some (.cells us T (0, 0)) ∧ K b = 0 ∧ repL ν K w cs us.toList ∧ cs.all HV.one = true
def DL (ν : Nat → Option Nat) (K : Nat → Nat) (w : World) : List (Nat × List HV) → List Deferred → Prop
 | [], ds => ds = []
 | p :: D, ds => ∃ us us' ds', ds = { target := .fn (.func p.1) us', args := us } :: ds' ∧ repL ν K w p.2 (us.toList ++ us'.toList) ∧ DL ν K w D ds'
theorem DL.grow {ν K w K' w'} (hg : Grow w K w' K') : ∀ {D : List (Nat × List HV)} {ds : List Deferred}, DL ν K w D ds → DL ν K' w' D ds
 | [], ds, h => h
 | p :: D, ds, ⟨us, us', ds', e1, e2, e3⟩ => ⟨us, us', ds', e1, e2.grow hg, DL.grow hg e3⟩
structure St (D : List (Nat × List HV)) (ν : Nat → Option Nat) (w0 : World) (K0 : Nat → Nat) (H0 : Heap) (N : Nat) (e : Env) (H : Heap) (a : Act) (w : World) (K : Nat → Nat) (μ : Nat → Nat) : Prop where
 hs : hsat ν w K H
 sz : a.tmps.size = N
 df : DL ν K w D a.defers
 slot : ∀ t x, e.get t = some x → repE ν K w μ x (a.tmps.getD t undef) ∧ x.live e
 box : ∀ k cs, e.box k = some cs → boxok ν w0.heap.size H w K (μ k) cs
 inj : ∀ k k' cs cs', e.box k = some cs → e.box k' = some cs' → μ k = μ k' → k = k'
 ext : Ext (quiet ν) w0 K0 H0 w K H
def Spec (P : Program) (ν : Nat → Option Nat) : SpecT := fun g args H Q =>
 ∀ n, fnat ν n g → ∀ w K us, hsat ν w K H → repL ν K w args us →
   Calls P n us.toArray w fun en w' => ∃ u h H' K', en = .returned u ∧ rep ν K' w' h u ∧ hsat ν w' K' H' ∧ Ext (quiet ν) w K H w' K' H' ∧ Q h H'
theorem repE.grow {ν K w K' w' μ} (hg : Grow w K w' K') : ∀ (x : EV) {u}, repE ν K w μ x u → repE ν K' w' μ x u
 | .h x, u, h => rep.grow hg x h
 | .lp k o, u, h => h
theorem put_same {e : Env} {t : Nat} {x : EV} (h : e.get t = some x) : e.put (some t) x = e := by
 cases e with
 | mk sl bx =>
   simp only [Env.put, Env.get] at h ⊢
   congr 1
   funext i
   simp only [upd]
   split
   · rename_i hi; subst hi; exact h.symm
   · rfl
theorem lt_of_heap {w : World} {b : Nat} {o : Obj} (h : w.heap[b]? = some o) : b < w.heap.size := by
 rcases Nat.lt_or_ge b w.heap.size with h' | h'
 · exact h'
 · rw [Array.getElem?_eq_none h'] at h; cases h
section
variable {D : List (Nat × List HV)} {ν : Nat → Option Nat} {w0 : World} {K0 : Nat → Nat} {H0 : Heap} {N : Nat} {e : Env} {H : Heap} {a : Act} {w : World} {K μ : Nat → Nat}
theorem St.put (h : St D ν w0 K0 H0 N e H a w K μ) {d : Option Nat} {x : EV} {u : Value} (hd : ∀ t, d = some t → t < N) (hr : repE ν K w μ x u) (hl : x.live e) :
   St D ν w0 K0 H0 N (e.put d x) H (a.put d u) w K μ := by
 cases d with
 | none => exact h
 | some t =>
   have ht := hd t rfl
   refine ⟨h.hs, by simpa [Act.put] using h.sz, by simpa [Act.put] using h.df, ?_, h.box, h.inj, h.ext⟩
   intro s y hy
   simp only [Env.get, Env.put, upd] at hy
   have hlive : ∀ z : EV, z.live e → z.live (e.put (some t) x) := by
     intro z hz; cases z <;> simpa [EV.live, Env.put, Env.box] using hz
   by_cases hst : t = s
   · subst hst
     simp only [if_true, Option.some.injEq] at hy
     subst hy
     refine ⟨?_, hlive _ hl⟩
     have hsz := h.sz
     simp only [Act.put, Array.getD_eq_getD_getElem?]
     rw [Array.getElem?_setIfInBounds_self_of_lt (by omega)]
     simpa using hr
   · rw [if_neg hst] at hy
     obtain ⟨h1, h2⟩ := h.slot s y hy
     refine ⟨?_, hlive _ h2⟩
     simp only [Act.put, Array.getD_eq_getD_getElem?] at h1 ⊢
     rw [Array.getElem?_setIfInBounds_ne hst]
     exact h1
theorem St.step {w' : World} {K' : Nat → Nat} {H' : Heap} (h : St D ν w0 K0 H0 N e H a w K μ) (hx : Ext (quiet ν) w K H w' K' H') (hs' : hsat ν w' K' H') :
   St D ν w0 K0 H0 N e H' a w' K' μ := by
 refine ⟨hs', h.sz, h.df.grow hx.grow, fun t x hx' => ⟨(h.slot t x hx').1.grow hx.grow, (h.slot t x hx').2⟩, fun k cs hk => ?_, h.inj, h.ext.trans hx⟩
 obtain ⟨h1, h2, us, T, h3, h4, h5, h6⟩ := h.box k cs hk
 obtain ⟨s1, s2, s3⟩ := hx.same _ (lt_of_heap h3) h2
 exact ⟨h1, s3, us, T, s1.trans h3, s2.trans h4, h5.grow hx.grow, h6⟩
theorem Ext.draw {φ : Prop} (w : World) (K : Nat → Nat) (H : Heap) (n : Nat) (hn : w.drawn ≤ n) : Ext φ w K H { w with drawn := n } K H :=
 ⟨rfl, rfl, rfl, Nat.le_refl _, fun _ => hn, ⟨fun _ => Nat.le_refl _, fun _ _ _ => rfl⟩, fun _ _ h => ⟨rfl, rfl, h⟩⟩
theorem hsat.draw {n : Nat} (h : hsat ν w K H) : hsat ν { w with drawn := n } K H := by
 refine ⟨fun b r hb => ?_, h.fresh, h.tab.grow ⟨fun _ => Nat.le_refl _, fun _ _ _ => rfl⟩⟩
 have hg : Grow w K { w with drawn := n } K := ⟨fun _ => Nat.le_refl _, fun _ _ _ => rfl⟩
 have h1 := h.res b r hb
 cases r with
 | obj cs => obtain ⟨us, T, h2, h3, h4, h5⟩ := h1; exact ⟨us, T, h2, h3, h4.grow hg, h5⟩
 | tip t c => exact h1
 | mp es c => obtain ⟨us, h2, h3, h4⟩ := h1; exact ⟨us, h2, h3, repM.grow hg _ h4⟩
 | it m s seen l => exact h1
theorem St.draw {n : Nat} (h : St D ν w0 K0 H0 N e H a w K μ) (hn : w.drawn ≤ n) : St D ν w0 K0 H0 N e H a { w with drawn := n } K μ := h.step (Ext.draw w K H n hn) h.hs.draw
theorem resok.move {w' : World} {K' : Nat → Nat} {b : Nat} {r : Res} (hg : Grow w K w' K') (hb : w'.heap[b]? = w.heap[b]?) (hk : K' b = K b) (h : resok ν K w b r) : resok ν K' w' b r := by
 cases r with
 | obj cs => obtain ⟨us, T, h2, h3, h4, h5⟩ := h; exact ⟨us, T, hb.trans h2, hk.trans h3, h4.grow hg, h5⟩
 | tip t c => obtain ⟨us, T, h2, h3, h4⟩ := h; exact ⟨us, T, hb.trans h2, hk.trans h3, h4⟩
 | mp es c => obtain ⟨us, h2, h3, h4⟩ := h; exact ⟨us, hb.trans h2, hk.trans h3, repM.grow hg _ h4⟩
 | it m s seen l => exact ⟨hb.trans h.1, hk.trans h.2⟩
theorem heap_push_lt (o : Obj) {b : Nat} (h : b < w.heap.size) : (w.alloc o).heap[b]? = w.heap[b]? := heap_alloc_old w o b h
theorem cell_push (o : Obj) {b j : Nat} (h : b < w.heap.size) : (w.alloc o).cell? ⟨b, j, none⟩ = w.cell? ⟨b, j, none⟩ := World.cell?_alloc_lt w o _ h
theorem grow_push (hs : hsat ν w K H) (o : Obj) : Grow w K (w.alloc o) K :=
 ⟨fun _ => Nat.le_refl _, fun b j hj => by
   rcases Nat.lt_or_ge b w.heap.size with h | h
   · exact cell_push o h
   · rw [hs.fresh b h] at hj; omega⟩
theorem push_commit (hs : hsat ν w K H) (us : Array Value) (T : TypeId) (n : Nat) (hn : n ≤ us.size) (fr : Nat × Nat := (0, 0)) :
   Ext (quiet ν) w K H (w.alloc (.cells us T fr)) (fun b => if b = w.heap.size then n else K b) H ∧ hsat ν (w.alloc (.cells us T fr)) (fun b => if b = w.heap.size then n else K b) H := by
 have hg : Grow w K (w.alloc (.cells us T fr)) (fun b => if b = w.heap.size then n else K b) :=
   ⟨fun b => by by_cases h : b = w.heap.size <;> simp [h, hs.fresh], fun b j hj => (grow_push hs _).cell b j hj⟩
 refine ⟨⟨rfl, rfl, rfl, by simp, fun _ => Nat.le_refl _, hg, fun b hb hH => ⟨heap_push_lt _ hb, by rw [if_neg (by omega)], hH⟩⟩, ⟨fun b r hb => ?_, fun b hb => ?_, hs.tab.grow hg⟩⟩
 · have hlt := hs.lt hb
   exact (hs.res b r hb).move hg (heap_push_lt _ hlt) (by rw [if_neg (by omega)])
 · simp only [World.size_alloc] at hb
   rw [if_neg (by omega)]; exact hs.fresh b (by omega)
theorem push_obj (hs : hsat ν w K H) (us : Array Value) (T : TypeId) (cs : List HV) (hr : repL ν K w cs us.toList) (h1 : cs.all HV.one = true) :
   Ext (quiet ν) w K H (w.alloc (.cells us T)) K (H.upd w.heap.size (some (.obj cs))) ∧ hsat ν (w.alloc (.cells us T)) K (H.upd w.heap.size (some (.obj cs))) := by
 have hg := grow_push hs (.cells us T)
 refine ⟨⟨rfl, rfl, rfl, by simp, fun _ => Nat.le_refl _, hg, fun b hb hH => ⟨heap_push_lt _ hb, rfl, by rw [Heap.upd, if_neg (by omega)]; exact hH⟩⟩, ⟨fun b r hb => ?_, fun b hb => ?_, hs.tab.grow hg⟩⟩
 · by_cases h : b = w.heap.size
   · subst h
     simp only [Heap.upd, if_true, Option.some.injEq] at hb
     subst hb
     exact ⟨us, T, heap_alloc_new w _, hs.fresh _ (Nat.le_refl _), repL.full (hr.grow hg), h1⟩
   · rw [Heap.upd, if_neg h] at hb
     exact (hs.res b r hb).move hg (heap_push_lt _ (hs.lt hb)) rfl
 · simp only [World.size_alloc] at hb
   exact hs.fresh b (by omega)
theorem push_tip (hs : hsat ν w K H) (us : Array Value) (T : TypeId) (n c : Nat) (hn : n ≤ us.size) (hc : c ≤ us.size) :
   Ext (quiet ν) w K H (w.alloc (.cells us T)) (fun b => if b = w.heap.size then n else K b) (H.upd w.heap.size (some (.tip n c))) ∧
   hsat ν (w.alloc (.cells us T)) (fun b => if b = w.heap.size then n else K b) (H.upd w.heap.size (some (.tip n c))) := by
 obtain ⟨h1, h2⟩ := push_commit hs us T n hn
 refine ⟨⟨rfl, rfl, rfl, by simp, fun _ => Nat.le_refl _, h1.grow, fun b hb hH => ⟨heap_push_lt _ hb, by rw [if_neg (by omega)], by rw [Heap.upd, if_neg (by omega)]; exact hH⟩⟩, ⟨fun b r hb => ?_, h2.fresh, h2.tab⟩⟩
 by_cases h : b = w.heap.size
 · subst h
   simp only [Heap.upd, if_true, Option.some.injEq] at hb
   subst hb
   exact ⟨us, T, heap_alloc_new w _, by simp, hn, hc⟩
 · rw [Heap.upd, if_neg h] at hb
   exact h2.res b r hb
theorem St.newbox (h : St D ν w0 K0 H0 N e H a w K μ) (us : Array Value) (T : TypeId) (k : Nat) (cs : List HV) (hk : e.box k = none) (hr : repL ν K w cs us.toList) (h1 : cs.all HV.one = true) :
   St D ν w0 K0 H0 N (e.setb k cs) H a (w.alloc (.cells us T)) K (fun i => if i = k then w.heap.size else μ i) := by
 have hg := grow_push h.hs (.cells us T)
 have hs' : hsat ν (w.alloc (.cells us T)) K H := ⟨fun b r hb => (h.hs.res b r hb).move hg (heap_push_lt _ (h.hs.lt hb)) rfl, fun b hb => h.hs.fresh b (by simp at hb; omega), h.hs.tab.grow hg⟩
 have hx : Ext (quiet ν) w K H (w.alloc (.cells us T)) K H := ⟨rfl, rfl, rfl, by simp, fun _ => Nat.le_refl _, hg, fun b hb hH => ⟨heap_push_lt _ hb, rfl, hH⟩⟩
 have h2 := h.step hx hs'
 refine ⟨hs', h.sz, h.df.grow hg, fun t x hx' => ?_, fun i cs' hi => ?_, fun i j c c' hi hj hij => ?_, h2.ext⟩
 · obtain ⟨s1, s2⟩ := h2.slot t x hx'
   cases x with
   | h x => exact ⟨s1, trivial⟩
   | lp i o =>
     have hne : i ≠ k := by rintro rfl; simp [EV.live, hk] at s2
     refine ⟨by simpa [repE, hne] using s1, ?_⟩
     simp only [EV.live, Env.setb, Env.box, upd] at s2 ⊢
     rw [if_neg (fun e => hne e.symm)]; exact s2
 · simp only [Env.setb, Env.box, upd] at hi
   by_cases hik : k = i
   · subst hik
     simp only [if_true, Option.some.injEq] at hi
     subst hi
     refine ⟨by simpa using h.ext.size, by simpa using h.hs.none_new (Nat.le_refl _), us, T, by simpa using heap_alloc_new w _, by simpa using h.hs.fresh _ (Nat.le_refl _), hr.grow hg, h1⟩
   · rw [if_neg hik] at hi
     have := h2.box i cs' hi
     have hki : ¬ i = k := fun e => hik e.symm
     simpa [hki] using this
 · have lt : ∀ i c, e.box i = some c → μ i < w.heap.size := fun i c hi => by
     obtain ⟨_, _, us, T, h3, _⟩ := h.box i c hi
     exact lt_of_heap h3
   simp only [Env.setb, Env.box, upd] at hi hj
   by_cases hik : k = i <;> by_cases hjk : k = j
   · exact hik.symm.trans hjk
   · rw [if_neg hjk] at hj
     have := lt j _ hj
     have hkj : ¬ j = k := fun e => hjk e.symm
     simp only [hik.symm, if_true, if_neg hkj] at hij; omega
   · rw [if_neg hik] at hi
     have := lt i _ hi
     have hki : ¬ i = k := fun e => hik e.symm
     simp only [hjk.symm, if_true, if_neg hki] at hij; omega
   · rw [if_neg hik] at hi; rw [if_neg hjk] at hj
     have hkj : ¬ j = k := fun e => hjk e.symm
     have hki : ¬ i = k := fun e => hik e.symm
     simp only [if_neg hkj, if_neg hki] at hij
     exact h.inj i j _ _ hi hj hij
end
def St' (D : List (Nat × List HV)) (ν : Nat → Option Nat) (w0 : World) (K0 : Nat → Nat) (H0 : Heap) (N : Nat) (e : Env) (H : Heap) (a : Act) (w : World) : Prop := ∃ K μ, St D ν w0 K0 H0 N e H a w K μ
def VS (e : Env) (H : Heap) (e1 : Env) (H1 : Heap) : Prop := ∀ (D : List (Nat × List HV)) (ν : Nat → Option Nat) (w0 : World) (K0 : Nat → Nat) (H0 : Heap) (N : Nat) (a : Act) (w : World), St' D ν w0 K0 H0 N e H a w → St' D ν w0 K0 H0 N e1 H1 a w
theorem VS.refl (e : Env) (H : Heap) : VS e H e H := fun _ _ _ _ _ _ _ _ h => h
theorem VS.trans {e : Env} {H : Heap} {e1 : Env} {H1 : Heap} {e2 : Env} {H2 : Heap} (h : VS e H e1 H1) (k : VS e1 H1 e2 H2) : VS e H e2 H2 := fun _ _ _ _ _ _ _ _ x => k _ _ _ _ _ _ _ _ (h _ _ _ _ _ _ _ _ x)
def csem (S : SpecT) : SC → Env → Heap → (SEx → Env → Heap → Prop) → Prop
 | .skip, e, H, Q => Q .normal e H
 | .reg ops, e, H, Q => rsem S ops e H (Q .normal)
 | .dreg _ ops, e, H, Q => dsem S ops (List.range ops.length) e H (Q .normal)
 | .seq a b, e, H, Q => csem S a e H fun ex e' H' => match ex with
   | .normal => ∃ e1 H1, VS e' H' e1 H1 ∧ csem S b e1 H1 Q
   | ex => Q ex e' H'
 | .cond c a b, e, H, Q => match e.hv c with
   | some (.v (.bool t)) => (t = true → csem S a e H Q) ∧ (t = false → csem S b e H Q)
   | _ => False
 | .block id b, e, H, Q => csem S b e H fun ex e' H' => match ex with
   | .exit i => if i = id then Q .normal e' H' else Q (.exit i) e' H'
   | ex => Q ex e' H'
 | .loop b, e, H, Q => ∃ I : Nat → Env → Heap → Prop, (∃ n e1 H1, VS e H e1 H1 ∧ I n e1 H1) ∧
     ∀ n e H, I n e H → csem S b e H fun ex e' H' => match ex with
       | .normal => ∃ m e1 H1, m < n ∧ VS e' H' e1 H1 ∧ I m e1 H1
       | ex => Q ex e' H'
 | .exit id, e, H, Q => Q (.exit id) e H
 | .ret, e, H, Q => Q .ret e H
 | .dfr .., _, _, _ => False
def SF.sem (S : SpecT) (f : SF) (args : List HV) (H : Heap) (Q : HV → Heap → Prop) : Prop :=
 args.length = f.np ∧ csem S f.body (initE args) H fun ex e H' => (ex = .normal ∨ ex = .ret) ∧
   ∃ e1 H1, VS e H' e1 H1 ∧ match resList e1 H1 f.res with
   | some hs => ∃ h' H'', Weak (tupled hs) h' ∧ H''.sub H1 ∧ Q h' H''
   | none => False
def finS (res : List SRes) (Q : HV → Heap → Prop) (e : Env) (H : Heap) : Prop :=
 ∃ e1 H1, VS e H e1 H1 ∧ match resList e1 H1 res with
   | some hs => ∃ h' H'', Weak (tupled hs) h' ∧ H''.sub H1 ∧ Q h' H''
   | none => False
def fsem (C : Nat → SF) (S : SpecT) (fin : Env → Heap → Prop) : SC → Env → Heap → Prop
 | .dfr ops x ys gd rest, e, H => rsem S ops e H fun e' H' => match e'.hv x, e'.hvs ys with
   | some (.fn g caps), some hs => g = gd ∧ (C gd).body.isD = false ∧ csem S rest e' H' fun ex e2 H2 => (ex = .normal ∨ ex = .ret) ∧ ∃ e3 H3, VS e2 H2 e3 H3 ∧ (C gd).sem S (hs ++ caps) H3 fun _ H4 => fin e3 H4
   | _, _ => False
 | .seq a b, e, H => csem S a e H fun ex e' H' => match ex with
   | .normal => ∃ e1 H1, VS e' H' e1 H1 ∧ fsem C S fin b e1 H1
   | .ret => fin e' H'
   | .exit _ => False
 | s, e, H => csem S s e H fun ex e' H' => (ex = .normal ∨ ex = .ret) ∧ fin e' H'
def SF.dsem (C : Nat → SF) (S : SpecT) (f : SF) (args : List HV) (H : Heap) (Q : HV → Heap → Prop) : Prop :=
 args.length = f.np ∧ fsem C S (finS f.res Q) f.body (initE args) H
end Sm
namespace Sm
open Go
def vbeq : Value → Value → Bool
 | .bool a, .bool b => decide (a = b)
 | .int k a, .int k' b => decide (k = k') && decide (a = b)
 | .string a, .string b => decide (a = b)
 | .pointer none, .pointer none => true
 | .slice none 0 0, .slice none 0 0 => true
 | .map none, .map none => true
 | .nilFunc, .nilFunc => true
 | .nilIface, .nilIface => true
 | _, _ => false
theorem vbeq_eq {u v : Value} (h : vbeq u v = true) : u = v ∧ v.oneCell' = true := by
 unfold vbeq at h
 split at h <;> simp_all [Value.oneCell']
def okOpd (ν : Nat → Option Nat) : Operand → Opd → Bool
 | .tmp t, .s t' => decide (t = t')
 | .const v, .c v' => vbeq v v'
 | .func f, .f g => decide (ν f = some g) && decide (f < gOff)
 | .global n, .g j => decide (ν (gOff + n) = some (gOff + j)) && (tabOf j).all HV.one
 | _, _ => false
def okOpds (ν : Nat → Option Nat) : List Operand → List Opd → Bool
 | [], [] => true
 | x :: xs, y :: ys => okOpd ν x y && okOpds ν xs ys
 | _, _ => false
def okOpd? (ν : Nat → Option Nat) : Option Operand → Option Opd → Bool
 | none, none => true
 | some x, some y => okOpd ν x y
 | _, _ => false
def szOf (P : Program) (T : TypeId) : Option Nat := (P.info? T).map (·.size)
def aggOf (P : Program) (T : TypeId) : Option Bool := (P.underlying T).map fun d => match d with
 | .struct _ => true
 | .array _ _ => true
 | _ => false
def elemOf (P : Program) (T : TypeId) : Option TypeId := match P.underlying T with
 | some (.slice e) => some e
 | _ => none
def arrOf (P : Program) (T : TypeId) : Option (Nat × TypeId) := match P.underlying T with
 | some (.array n e) => some (n, e)
 | _ => none
def fieldOf (P : Program) (T : TypeId) (f : Nat) : Option Field := match P.underlying T with
 | some (.struct fs) => fs[f]?
 | _ => none
def isStr (P : Program) (T : TypeId) : Bool := match P.underlying T with
 | some .string => true
 | _ => false
def intOf' (P : Program) (T : TypeId) : Option IntKind := match P.underlying T with
 | some (.int k) => some k
 | _ => none
def zeq : List Value → List HV → Bool
 | [], [] => true
 | u :: us, .v x :: cs => vbeq u x && zeq us cs
 | _, _ => false
def okParts (P : Program) (ν : Nat → Option Nat) (T : TypeId) : List (Nat × Operand) → List (Nat × Nat × Opd) → Bool
 | [], [] => true
 | (i, x) :: xs, (off, n, y) :: ys => (match fieldOf P T i with
     | some f => decide (f.offset = off) && decide (szOf P f.type = some n)
     | none => false) && okOpd ν x y && okParts P ν T xs ys
 | _, _ => false
def okSeq (ν : Nat → Option Nat) (k : Nat) : List (Nat × Operand) → List Opd → Bool
 | [], [] => true
 | (i, x) :: xs, y :: ys => decide (i = k) && okOpd ν x y && okSeq ν (k + 1) xs ys
 | _, _ => false
def flatF (P : Program) (chk : TypeId → Option (List Lf)) : Nat → List Field → Option (List Lf)
 | _, [] => some []
 | off, f :: fs => if (f.name == "_") = false ∧ f.offset = off then match chk f.type with
     | some ks => (flatF P chk (off + ks.length) fs).map (ks ++ ·)
     | none => none
   else none
def flatT (P : Program) : Nat → TypeId → Option (List Lf)
 | 0, _ => none
 | d + 1, t => match P.underlying t with
   | some .bool => if szOf P t = some 1 then some [.b] else none
   | some (.int _) => if szOf P t = some 1 then some [.i] else none
   | some .string => if szOf P t = some 1 then some [.s] else none
   | some (.struct fs) => if P.stoodInHeld t = false then match flatF P (flatT P d) 0 fs.toList with
       | some ks => if szOf P t = some ks.length then some ks else none
       | none => none
     else none
   | some (.array n e) => match flatT P d e with
     | some ks => if szOf P t = some (n * ks.length) then some (List.replicate n ks).flatten else none
     | none => none
   | _ => none
def okEq (P : Program) (t : TypeId) : EqK → Bool
 | .bool => match P.underlying t with
   | some .bool => true
   | _ => false
 | .ptr => match P.underlying t with
   | some (.pointer _) => true
   | _ => false
 | .fnc => match P.underlying t with
   | some (.func _ _ _) => true
   | _ => false
 | .slc => match P.underlying t with
   | some (.slice _) => true
   | _ => false
 | .ag ks => decide (flatT P 20 t = some ks) && !P.eqGuardType P.depth t && decide (aggOf P t = some true)
def nonInt (P : Program) (t : TypeId) : Bool := match P.underlying t with
 | some (.int _) => false
 | some _ => true
 | none => false
def isNilC : Operand → Bool
 | .const (.slice none 0 0) => true
 | _ => false
def isExt (P : Program) (n : Nat) (name origin : String) : Bool := match P.funcs[n]? with
 | some f => decide (f.name = name) && decide (f.origin = origin) && f.body.isNone
 | none => false
def isBytes (P : Program) (T : TypeId) : Bool := match P.underlying T with
 | some (.slice e) => (match P.underlying e with
   | some (.int .u8) => true
   | _ => false)
 | _ => false
def chkNd (P : Program) (ν : Nat → Option Nat) (o : Op) (f : NdOp) (xs : List Opd) : Bool :=
 match f, o, xs with
 | .cap, .call c, [x'] => (match c.callee, c.args.toList, c.argTypes.toList with
   | .builtin .cap, [x], [t] => (elemOf P t).isSome && okOpd ν x x'
   | _, _, _ => false)
 | .ixb, .call c, [x', y'] => (match c.callee, c.args.toList with
   | .value (.func n), [x, y] => isExt P n "internal/bytealg.IndexByteString" "" && okOpd ν x x' && okOpd ν y y'
   | _, _ => false)
 | .cntb, .call c, [x', y'] => (match c.callee, c.args.toList with
   | .value (.func n), [x, y] => isExt P n "internal/bytealg.CountString" "" && okOpd ν x x' && okOpd ν y y'
   | _, _ => false)
 | .b2s, .convert src dst x, [x'] => isBytes P src && isStr P dst && okOpd ν x x'
 | .s2b, .convert src dst x, [x'] => isStr P src && isBytes P dst && okOpd ν x x'
 | .isnil ne, .binOp op t x y _, [x'] => decide (op = if ne then .neq else .eql) && isNilC y && okEq P t .slc && okOpd ν x x'
 | _, _, _ => false
def okEl (P : Program) (e : TypeId) (sz bytes : Nat) (zero : List HV) : Bool := match P.info? e with
 | some i => decide (i.size = sz) && decide (i.bytes = bytes) && decide (0 < sz) && decide (0 < bytes) && (match i.zero with
   | some z => zeq z.cells.toList zero && decide (z.cells.size = sz)
   | none => false)
 | none => false
def mapOf (P : Program) (T : TypeId) : Option (TypeId × TypeId) := match P.underlying T with
 | some (.map k e) => some (k, e)
 | _ => none
def okKey (P : Program) (s : Bool) (T : TypeId) : Bool := match P.underlying T with
 | some .string => s
 | some (.int _) => !s
 | _ => false
def okZero (P : Program) (T : TypeId) (agg : Bool) (zero : List HV) : Bool := match (P.info? T).bind (·.zero) with
 | some (.agg cs) => agg && zeq cs.toList zero
 | some z => !agg && zeq [z] zero
 | none => false
def isIfc (P : Program) (T : TypeId) : Bool := match P.underlying T with
 | some (.interface _) => true
 | _ => false
def chkMop (P : Program) (ν : Nat → Option Nat) (o : Op) (f : MOp) (xs : List Opd) : Bool :=
 match f, o, xs with
 | .mk, .makeMap _ none, [] => true
 | .lkp s ok agg zero, .lookup T x k ok', [x', k'] => decide (ok = ok') && (match mapOf P T with
   | some (kt, el) => okKey P s kt && okZero P el agg zero
   | none => false) && okOpd ν x x' && okOpd ν k k'
 | .upd s, .mapUpdate T m k x, [m', k', x'] => (match mapOf P T with
   | some (kt, _) => okKey P s kt
   | none => false) && okOpd ν m m' && okOpd ν k k' && okOpd ν x x'
 | .upd s, .insert T m k x, [m', k', x'] => (match mapOf P T with
   | some (kt, _) => okKey P s kt
   | none => false) && okOpd ν m m' && okOpd ν k k' && okOpd ν x x'
 | .del s, .call c, [m', k'] => (match c.callee, c.args.toList, c.argTypes.toList with
   | .builtin .delete, [m, k], t :: _ => (match mapOf P t with
     | some (kt, _) => okKey P s kt
     | none => false) && okOpd ν m m' && okOpd ν k k'
   | _, _, _ => false)
 | .len, .call c, [m'] => (match c.callee, c.args.toList, c.argTypes.toList with
   | .builtin .len, [m], [t] => (mapOf P t).isSome && okOpd ν m m'
   | _, _, _ => false)
 | .rng, .range T x, [x'] => (mapOf P T).isSome && okOpd ν x x'
 | .nxt, .next x s, [x'] => !s && okOpd ν x x'
 | .ent, .entry x, [x'] => okOpd ν x x'
 | .cln, .call c, [x'] => (match c.callee, c.args.toList with
   | .value (.func n), [x] => isExt P n "maps.clone" "" && okOpd ν x x'
   | _, _ => false)
 | .mki t, .makeInterface T x, [x'] => decide (T = t) && (P.underlying T).isSome && !isIfc P T && okOpd ν x x'
 | .tas t, .typeAssert x _ T ok, [x'] => decide (T = t) && !ok && (P.underlying T).isSome && !isIfc P T && okOpd ν x x'
 | .isnil ne, .binOp op t x y _, [x'] => decide (op = if ne then .neq else .eql) && (match y with
   | .const (.map none) => true
   | _ => false) && (mapOf P t).isSome && okOpd ν x x'
 | .mkm g, .makeFunc (.func f) first caps, [r'] => (match first.toList with
   | [r] => okOpd ν r r'
   | _ => false) && caps.isEmpty && decide (ν f = some g ∧ f < gOff)
 | .bldA sz, .build T ps, qs => (match arrOf P T with
   | some (n, el) => decide (szOf P el = some sz) && decide (n = qs.length) && (match (P.info? T).bind (·.zero) with
     | some z => decide (z.cells.size = n * sz)
     | none => false) && okSeq ν 0 ps.toList qs
   | none => false)
 | .idxA n sz agg, .index T x i, [x', i'] => (match arrOf P T with
   | some (m, el) => decide (m = n) && decide (szOf P el = some sz) && decide (aggOf P el = some agg) && (agg || decide (sz = 1))
   | none => false) && okOpd ν x x' && okOpd ν i i'
 | _, _, _ => false
def chkHop (P : Program) (ν : Nat → Option Nat) (o : Op) (f : HOp) (xs : List Opd) : Bool :=
 match f, o, xs with
 | .mks sz bytes zero, .makeSlice T l c, [l', c'] => (match elemOf P T with
   | some e => okEl P e sz bytes zero
   | none => false) && okOpd ν l l' && okOpd ν c c'
 | .ovl sz, .call c, [x', y'] => (match c.callee, c.args.toList with
   | .value (.func n), [x, y] => (match P.funcs[n]? with
     | some f => decide (f.origin = "slices.overlaps") && decide (f.name = "slices.overlaps[sumpter/api.Entry]") && f.body.isNone && (match f.params[0]? with
       | some t => (match elemOf P t with
         | some e => decide (szOf P e = some sz)
         | none => false)
       | none => false)
     | none => false) && okOpd ν x x' && okOpd ν y y'
   | _, _ => false)
 | .appz sz bytes zero, .call c, [x', y'] => (match c.callee, c.args.toList, c.argTypes.toList with
   | .builtin .append, [x, y], [t, tn] => (match elemOf P t with
     | some e => okEl P e sz bytes zero
     | none => false) && (match P.underlying tn with
     | some (.int _) => true
     | _ => false) && okOpd ν x x' && okOpd ν y y'
   | _, _, _ => false)
 | .bsl sz, .buildSlice T len ps, qs => (match elemOf P T with
   | some e => decide (szOf P e = some sz) && decide (0 < sz) && decide (len * sz ≤ 2 ^ 24) && decide (len = qs.length) && (match (P.info? e).bind (·.zero) with
     | some z => decide (z.cells.size = sz)
     | none => false) && okSeq ν 0 ps.toList qs
   | none => false)
 | .mark, .convert src dst x, [x'] => decide (src = dst) && isBytes P src && okOpd ν x x'
 | .copy sz, .call c, [x', y'] => (match c.callee, c.args.toList, c.argTypes.toList with
   | .builtin .copy, [x, y], [t, t'] => (match elemOf P t with
     | some e => decide (szOf P e = some sz)
     | none => false) && okOpd ν x x' && okOpd ν y y'
   | _, _, _ => false)
 | .clear sz zero, .call c, [x'] => (match c.callee, c.args.toList, c.argTypes.toList with
   | .builtin .clear, [x], [t] => (match elemOf P t with
     | some e => (match P.info? e with
       | some i => okEl P e sz i.bytes zero
       | none => false)
     | none => false) && okOpd ν x x'
   | _, _, _ => false)
 | .m f, o, xs => chkMop P ν o f xs
 | _, _, _ => false
def chkOp (P : Program) (ν : Nat → Option Nat) (o : Oper) (s : SOp) : Bool :=
 match o.op, s with
 | .move x, .mv y => okOpd ν x y
 | .assign x, .mv y => okOpd ν x y
 | .pick c a b, .pick c' a' b' => okOpd ν c c' && okOpd ν a a' && okOpd ν b b'
 | .binOp op _ x y _, .int op' x' y' => decide (op = op') && okOpd ν x x' && okOpd ν y y'
 | .binOp op _ x y _, .str op' x' y' => decide (op = op') && okOpd ν x x' && okOpd ν y y'
 | .binOp .eql t x y _, .eq k false x' y' => okEq P t k && okOpd ν x x' && okOpd ν y y'
 | .binOp .neq t x y _, .eq k true x' y' => okEq P t k && okOpd ν x x' && okOpd ν y y'
 | .unOp .not _ x, .not y => okOpd ν x y
 | .unOp .neg _ x, .neg y => okOpd ν x y
 | .convert src dst x, .conv k y => (P.underlying src).isSome && decide (intOf' P dst = some k) && okOpd ν x y
 | .convert src dst x, .idc y => (P.underlying src).isSome && isStr P dst && okOpd ν x y
 | .convert src dst x, .b2c y => isBytes P src && isStr P dst && okOpd ν x y
 | .alloc T, .alloc _ cs => match (P.info? T).bind (·.zero) with
   | some z => zeq z.cells.toList cs
   | none => false
 | .box T x, .box _ n y => okOpd ν x y
 | .build T ps, .build z qs => (match (P.info? T).bind (·.zero) with
   | some zv => zeq zv.cells.toList z
   | none => false) && (match P.underlying T with
   | some (.struct fs) => fs.toList.all fun f => (szOf P f.type).isSome
   | some (.array _ el) => ps.toList.isEmpty && (szOf P el).isSome
   | _ => false) && okParts P ν T ps.toList qs
 | .buildSlice T len ps, .bslice sz qs => match elemOf P T with
   | some e => decide (szOf P e = some sz) && decide (0 < sz) && decide (len * sz ≤ 2 ^ 24) && decide (len = qs.length) && (match (P.info? e).bind (·.zero) with
     | some z => decide (z.cells.size = sz)
     | none => false) && okSeq ν 0 ps.toList qs
   | none => false
 | .load T x, .load agg n y => decide (szOf P T = some n) && decide (aggOf P T = some agg) && (agg || decide (n = 1)) && okOpd ν x y
 | .store T a x, .store n a' x' => decide (szOf P T = some n) && okOpd ν a a' && okOpd ν x x'
 | .nilCheck x, .nilc y => okOpd ν x y
 | .fieldAddr T x f, .fld off y => (match fieldOf P T f with
   | some fd => decide (fd.offset = off) && (match szOf P fd.type with
     | some (_ + 1) => true
     | _ => false)
   | none => false) && okOpd ν x y
 | .field T x f, .field agg off n y => (match fieldOf P T f with
   | some fd => decide (fd.offset = off) && decide (szOf P fd.type = some n) && decide (aggOf P fd.type = some agg) && (agg || decide (n = 1))
   | none => false) && okOpd ν x y
 | .indexAddr T x i, .idx sz y j => (match elemOf P T with
   | some e => decide (szOf P e = some sz)
   | none => false) && okOpd ν x y && okOpd ν i j
 | .indexAddr T x i, .aidx len sz y j => (match arrOf P T with
   | some (n, e) => decide (n = len) && decide (szOf P e = some sz)
   | none => false) && okOpd ν x y && okOpd ν i j
 | .index T x i, .sidx y j => isStr P T && okOpd ν x y && okOpd ν i j
 | .call c, .len y => match c.callee, c.args.toList, c.argTypes.toList with
   | .builtin .len, [x], [t] => (elemOf P t).isSome && okOpd ν x y
   | _, _, _ => false
 | .call c, .slen y => match c.callee, c.args.toList, c.argTypes.toList with
   | .builtin .len, [x], [t] => isStr P t && okOpd ν x y
   | _, _, _ => false
 | .call c, .app sz bytes x' y' => match c.callee, c.args.toList, c.argTypes.toList with
   | .builtin .append, [x, y], [t, t'] => (match elemOf P t with
     | some e => (match P.info? e with
       | some i => decide (i.size = sz) && decide (i.bytes = bytes) && decide (0 < sz) && decide (0 < bytes) && (match i.zero with
         | some z => decide (z.cells.size = sz) && z.cells.all Value.oneCell'
         | none => false)
       | none => false)
     | none => false) && nonInt P t' && okOpd ν x x' && okOpd ν y y'
   | _, _, _ => false
 | .call c, .mm mx x' y' => match c.callee, c.args.toList with
   | .builtin .max, [x, y] => mx && okOpd ν x x' && okOpd ν y y'
   | .builtin .min, [x, y] => !mx && okOpd ν x x' && okOpd ν y y'
   | _, _ => false
 | .call c, .call g ys => match c.callee with
   | .value (.func f) => decide (ν f = some g ∧ f < gOff) && okOpds ν c.args.toList ys
   | _ => false
 | .call c, .callv y ys => match c.callee with
   | .value x => okOpd ν x y && okOpds ν c.args.toList ys
   | _ => false
 | .makeFunc (.func f) first caps, .mkfn g ys => first.isEmpty && decide (ν f = some g ∧ f < gOff) && okOpds ν caps.toList ys
 | .extract x i, .ext y j => decide (i = j) && okOpd ν x y
 | .slice T x lo hi mx, .slc sz x' lo' hi' mx' => (match elemOf P T with
   | some e => decide (szOf P e = some sz)
   | none => false) && okOpd ν x x' && okOpd? ν lo lo' && okOpd? ν hi hi' && okOpd? ν mx mx' && (mx.isNone || hi.isSome)
 | .slice T x lo hi none, .ssl x' lo' hi' => isStr P T && okOpd ν x x' && okOpd? ν lo lo' && okOpd? ν hi hi'
 | .lookup T x k ok', .lkc s ok agg zero x' k' => decide (ok = ok') && (match mapOf P T with
   | some (kt, el) => okKey P s kt && okZero P el agg zero
   | none => false) && okOpd ν x x' && okOpd ν k k'
 | .unOp .xor _ x, .com y => okOpd ν x y
 | .slice T x lo hi none, .asl n sz x' lo' hi' => (match arrOf P T with
   | some (m, el) => decide (m = n) && decide (szOf P el = some sz)
   | none => false) && okOpd ν x x' && okOpd? ν lo lo' && okOpd? ν hi hi'
 | op, .nd f xs => chkNd P ν op f xs
 | op, .hop f xs => chkHop P ν op f xs
 | _, .dead => true
 | _, _ => false
section
variable {P : Program} {w : World}
theorem run_sizeOf {T n} (h : szOf P T = some n) : (Go.sizeOf T).run P w = .ok n w := by
 unfold szOf at h
 cases hi : P.info? T with
 | none => simp [hi] at h
 | some i => simp [hi] at h; simp [Go.sizeOf, typeInfo, hi, h]
theorem run_isAgg {T b} (h : aggOf P T = some b) : (isAgg T).run P w = .ok b w := by
 unfold aggOf at h
 cases hu : P.underlying T with
 | none => simp [hu] at h
 | some d =>
   simp only [hu, Option.map_some, Option.some.injEq] at h
   simp only [isAgg, Sem.run_bind, run_underlying hu, Result.andThen_ok]
   cases d <;> simp_all
theorem elemOf_under {T e} (h : elemOf P T = some e) : P.underlying T = some (.slice e) := by
 unfold elemOf at h; split at h <;> simp_all
theorem arrOf_under {T n e} (h : arrOf P T = some (n, e)) : P.underlying T = some (.array n e) := by
 unfold arrOf at h; split at h <;> simp_all
theorem fieldOf_under {T f fd} (h : fieldOf P T f = some fd) : ∃ fs, P.underlying T = some (.struct fs) ∧ fs[f]? = some fd := by
 unfold fieldOf at h; split at h <;> simp_all
theorem isStr_under {T} (h : isStr P T = true) : P.underlying T = some .string := by
 unfold isStr at h; split at h <;> simp_all
theorem intOf_under {T k} (h : intOf' P T = some k) : P.underlying T = some (.int k) := by
 unfold intOf' at h; split at h <;> simp_all
end
theorem mapOf_under {P : Program} {T k e} (h : mapOf P T = some (k, e)) : P.underlying T = some (.map k e) := by
 unfold mapOf at h; split at h <;> simp_all
theorem zeq_rep {ν K w} : ∀ {us : List Value} {cs : List HV}, zeq us cs = true → repL ν K w cs us ∧ cs.all HV.one = true
 | [], [], _ => by simp [repL]
 | [], _ :: _, h => by simp [zeq] at h
 | _ :: _, [], h => by simp [zeq] at h
 | u :: us, c :: cs, h => by
   cases c <;> simp only [zeq, Bool.and_eq_true, Bool.false_eq_true] at h
   obtain ⟨h1, h2⟩ := h
   obtain ⟨rfl, h3⟩ := vbeq_eq h1
   obtain ⟨h4, h5⟩ := zeq_rep (ν := ν) (K := K) (w := w) h2
   exact ⟨⟨u, us, rfl, by simp [rep], h4⟩, by simp only [List.all_cons, Bool.and_eq_true]; exact ⟨h3, h5⟩⟩
section
variable {P : Program} {D : List (Nat × List HV)} {ν : Nat → Option Nat} {w0 : World} {K0 : Nat → Nat} {H0 : Heap} {N : Nat} {e : Env} {H : Heap} {a : Act} {w : World} {K μ : Nat → Nat}
theorem opd_sound (h : St D ν w0 K0 H0 N e H a w K μ) {x : Operand} {y : Opd} (hk : okOpd ν x y = true) {z : EV} (hz : e.opd y = some z) :
   repE ν K w μ z (a.eval x) ∧ z.live e := by
 cases x <;> cases y <;> simp only [okOpd, Bool.false_eq_true] at hk
 · rename_i t t'
   simp only [decide_eq_true_eq] at hk; subst hk
   exact h.slot _ _ hz
 · obtain ⟨rfl, _⟩ := vbeq_eq hk
   simp only [Env.opd, Option.some.injEq] at hz; subst hz
   exact ⟨by simp [repE, rep, Act.eval], trivial⟩
 · simp only [Bool.and_eq_true, decide_eq_true_eq] at hk
   simp only [Env.opd, Option.some.injEq] at hz; subst hz
   exact ⟨h.hs.tab _ _ hk.1, trivial⟩
 · simp only [Bool.and_eq_true, decide_eq_true_eq] at hk
   simp only [Env.opd, Option.some.injEq] at hz; subst hz
   exact ⟨by simp only [repE, rep, Act.eval]; exact ⟨_, [], hk, rfl, by simp [repL]⟩, trivial⟩
theorem hv_sound (h : St D ν w0 K0 H0 N e H a w K μ) {x : Operand} {y : Opd} (hk : okOpd ν x y = true) {z : HV} (hz : e.hv y = some z) :
   rep ν K w z (a.eval x) := by
 unfold Env.hv at hz
 split at hz
 · simp only [Option.some.injEq] at hz; subst hz
   rename_i h1; exact (opd_sound h hk h1).1
 · cases hz
theorem hvs_sound (h : St D ν w0 K0 H0 N e H a w K μ) : ∀ {xs : List Operand} {ys : List Opd}, okOpds ν xs ys = true → ∀ {zs : List HV}, e.hvs ys = some zs → repL ν K w zs (xs.map a.eval)
 | [], [], _, zs, hz => by simp [Env.hvs] at hz; subst hz; simp [repL]
 | [], _ :: _, hk, _, _ => by simp [okOpds] at hk
 | _ :: _, [], hk, _, _ => by simp [okOpds] at hk
 | x :: xs, y :: ys, hk, zs, hz => by
   simp only [okOpds, Bool.and_eq_true] at hk
   simp only [Env.hvs] at hz
   split at hz
   · rename_i h' hs' h1 h2
     simp only [Option.some.injEq] at hz; subst hz
     exact ⟨_, _, rfl, hv_sound h hk.1 h1, hvs_sound h hk.2 h2⟩
   · cases hz
end
end Sm
namespace Sm
open Go
theorem repL_get {ν K w} : ∀ {hs : List HV} {us : List Value}, repL ν K w hs us → ∀ {i : Nat} {h : HV}, hs[i]? = some h → ∃ u, us[i]? = some u ∧ rep ν K w h u
 | [], us, _, i, h, hi => by simp at hi
 | g :: hs, us, hr, i, h, hi => by
   obtain ⟨u, us', rfl, h1, h2⟩ := hr
   cases i with
   | zero => simp at hi; subst hi; exact ⟨u, rfl, h1⟩
   | succ i => simpa using repL_get h2 (by simpa using hi)
theorem repL_drop {ν K w} : ∀ (n : Nat) {hs : List HV} {us : List Value}, repL ν K w hs us → repL ν K w (hs.drop n) (us.drop n)
 | 0, _, _, h => h
 | n + 1, [], us, h => by simp [repL] at h; subst h; simp [repL]
 | n + 1, g :: hs, us, hr => by
   obtain ⟨u, us', rfl, h1, h2⟩ := hr
   simpa using repL_drop n h2
theorem repL_take {ν K w} : ∀ (n : Nat) {hs : List HV} {us : List Value}, repL ν K w hs us → repL ν K w (hs.take n) (us.take n)
 | 0, _, _, h => by simp [repL]
 | n + 1, [], us, h => by simp [repL] at h; subst h; simp [repL]
 | n + 1, g :: hs, us, hr => by
   obtain ⟨u, us', rfl, h1, h2⟩ := hr
   exact ⟨u, us'.take n, by simp, h1, repL_take n h2⟩
theorem repL_append {ν K w} : ∀ {hs hs' : List HV} {us us' : List Value}, repL ν K w hs us → repL ν K w hs' us' → repL ν K w (hs ++ hs') (us ++ us')
 | [], _, us, us', h, h' => by simp [repL] at h; subst h; simpa using h'
 | g :: hs, _, us, us', hr, h' => by
   obtain ⟨u, us1, rfl, h1, h2⟩ := hr
   exact ⟨u, us1 ++ us', by simp, h1, repL_append h2 h'⟩
theorem rep_cells {ν K w h u} (he : h.el = true) (hr : rep ν K w h u) : repL ν K w h.cells u.cells.toList ∧ h.cells.all HV.one = true := by
 cases h with
 | ag cs => simp only [rep] at hr; obtain ⟨us, rfl, h1, h2⟩ := hr; exact ⟨by simpa [HV.cells, Value.cells] using h2, h1⟩
 | tu vs => simp [HV.el, HV.one] at he
 | v x =>
   simp only [rep] at hr; subst hr
   have hx : u.oneCell' = true := he
   have : u.cells = #[u] := by cases u <;> simp_all [Value.oneCell', Value.cells]
   exact ⟨by rw [this]; simp [HV.cells, repL, rep], by simp only [HV.cells, List.all_cons, List.all_nil, Bool.and_true]; exact hx⟩
 | sl tk sz es =>
   have hr' := hr
   simp only [rep] at hr; obtain ⟨A, cap, vals, rfl, _⟩ := hr
   exact ⟨by simp only [HV.cells, Value.cells, repL]; exact ⟨_, [], rfl, hr', rfl⟩, rfl⟩
 | rp cs =>
   have hr' := hr
   simp only [rep] at hr; obtain ⟨b, off, us, rfl, _⟩ := hr
   exact ⟨by simp only [HV.cells, Value.cells, repL]; exact ⟨_, [], rfl, hr', rfl⟩, rfl⟩
 | fn g caps =>
   have hr' := hr
   simp only [rep] at hr; obtain ⟨n, us, _, rfl, _⟩ := hr
   exact ⟨by simp only [HV.cells, Value.cells, repL]; exact ⟨_, [], rfl, hr', rfl⟩, rfl⟩
 | fm g r =>
   have hr' := hr
   simp only [rep] at hr; obtain ⟨n, us, _, rfl, _⟩ := hr
   exact ⟨by simp only [HV.cells, Value.cells, repL]; exact ⟨_, [], rfl, hr', rfl⟩, rfl⟩
theorem cells_len (h : HV) : h.cells.length = h.ncells := by cases h <;> rfl
theorem flat_get {ν K w sz} : ∀ {es : List HV} {vals : List Value}, repL ν K w es vals → es.all HV.el = true → (∀ e ∈ es, e.ncells = sz) → ∀ {i : Nat} {h : HV}, es[i]? = some h →
   ∃ u, rep ν K w h u ∧ h.el = true ∧ vals[i]? = some u ∧ ∀ j x, u.cells.toList[j]? = some x → (flat vals)[i * sz + j]? = some x
 | [], _, _, _, _, i, h, hi => by simp at hi
 | g :: es, vals, hr, ha, hs, i, h, hi => by
   obtain ⟨u, us', rfl, h1, h2⟩ := hr
   simp only [List.all_cons, Bool.and_eq_true] at ha
   have hsz := rep_cells_size ha.1 h1
   have hg := hs g (by simp)
   cases i with
   | zero =>
     simp at hi; subst hi
     refine ⟨u, h1, ha.1, rfl, fun j x hx => ?_⟩
     have hj : j < u.cells.toList.length := by
       rcases Nat.lt_or_ge j u.cells.toList.length with h | h
       · exact h
       · rw [List.getElem?_eq_none h] at hx; cases hx
     simp only [flat, List.flatMap_cons, Nat.zero_mul, Nat.zero_add]
     rw [List.getElem?_append_left hj]; exact hx
   | succ i =>
     obtain ⟨v, hv1, hv2, hv3, hv4⟩ := flat_get h2 ha.2 (fun e he => hs e (by simp [he])) (i := i) (h := h) (by simpa using hi)
     refine ⟨v, hv1, hv2, by simpa using hv3, fun j x hx => ?_⟩
     simp only [flat, List.flatMap_cons]
     have hl : u.cells.toList.length = sz := by rw [Array.length_toList, hsz, hg]
     rw [List.getElem?_append_right (by rw [hl, Nat.add_mul]; omega), hl]
     have := hv4 j x hx
     simp only [flat] at this
     rw [show (i + 1) * sz + j - sz = i * sz + j by rw [Nat.add_mul]; omega]
     exact this
theorem cellsAt_block {w : World} {b : Nat} {us : Array Value} {T fr} (h : w.heap[b]? = some (.cells us T fr)) : cellsAt w b 0 us.toList := by
 intro j x hx
 simp only [Nat.zero_add]
 rw [cell_of_row w b j us T fr h]
 simpa using hx
theorem cellsAt_drop {w : World} {b o : Nat} {us : List Value} (h : cellsAt w b o us) (k : Nat) : cellsAt w b (o + k) (us.drop k) := by
 intro j x hx
 rw [List.getElem?_drop] at hx
 have := h (k + j) x hx
 rwa [show o + k + j = o + (k + j) by omega]
theorem cellsAt_take {w : World} {b o : Nat} {us : List Value} (h : cellsAt w b o us) (k : Nat) : cellsAt w b o (us.take k) := by
 intro j x hx
 refine h j x ?_
 rw [List.getElem?_take] at hx
 split at hx
 · exact hx
 · cases hx
theorem addr_add (b o n : Nat) : Addr.add ⟨b, o, none⟩ n = ⟨b, o + n, none⟩ := by unfold Addr.add; split <;> simp_all
section
variable {P : Program} {w : World}
theorem run_loadAt {T : TypeId} {n : Nat} {agg : Bool} (hn : szOf P T = some n) (ha : aggOf P T = some agg) (h1 : (agg || decide (n = 1)) = true) {b o : Nat} {us : List Value}
   (hl : us.length = n) (hc : cellsAt w b o us) :
   ∃ u, (Instr.loadAt T (.pointer (some ⟨b, o, none⟩))).run P w = .ok u w ∧ (if agg then u = .agg us.toArray else us = [u]) := by
 cases agg with
 | true =>
   refine ⟨.agg us.toArray, ?_, by simp⟩
   simp only [Instr.loadAt, Instr.sureAddr, pure_bind, loadVar, Sem.run_bind, run_isAgg ha, Result.andThen_ok, if_true, run_sizeOf hn]
   have := run_loadCells_list (P := P) w ⟨b, o, none⟩ us (fun j v hj => by rw [addr_add]; exact hc j v hj)
   rw [hl] at this
   simp [this]
 | false =>
   simp at h1; subst h1
   match us, hl with
   | [u], _ =>
     refine ⟨u, ?_, by simp⟩
     have hu : w.cell? ⟨b, o, none⟩ = some u := by simpa using hc 0 u rfl
     simp [Instr.loadAt, Instr.sureAddr, loadVar, run_isAgg ha, hu]
end
theorem loadv_sound {ν : Nat → Option Nat} {K : Nat → Nat} {w : World} {P : Program} {T : TypeId} {n : Nat} {agg : Bool} (hn : szOf P T = some n) (ha : aggOf P T = some agg) (h1 : (agg || decide (n = 1)) = true)
   {b o off : Nat} {cs : List HV} {us : List Value} (hr : repL ν K w cs us) (hone : cs.all HV.one = true) (hc : cellsAt w b o us) {x : HV} (hx : loadv agg n off cs = some x) :
   ∃ u, (Instr.loadAt T (.pointer (some ⟨b, o + off, none⟩))).run P w = .ok u w ∧ rep ν K w x u := by
 unfold loadv at hx
 split at hx
 case isFalse => cases hx
 case isTrue hle =>
   have hlen := repL_length hr
   have hr' := repL_take n (repL_drop off hr)
   obtain ⟨u, hu1, hu2⟩ := run_loadAt (P := P) (w := w) hn ha h1 (us := (us.drop off).take n) (by rw [List.length_take, List.length_drop]; omega) (cellsAt_take (cellsAt_drop hc off) n)
   refine ⟨u, hu1, ?_⟩
   unfold mkv at hx
   cases agg with
   | true =>
     simp only [if_true, Option.some.injEq] at hx hu2; subst hx; subst hu2
     refine ⟨_, rfl, ?_, hr'⟩
     rw [List.all_eq_true] at hone ⊢
     exact fun z hz => hone z (List.mem_of_mem_drop (List.mem_of_mem_take hz))
   | false =>
     simp only [Bool.false_eq_true, if_false] at hx hu2
     split at hx
     · rename_i g hg
       simp only [Option.some.injEq] at hx; subst hx
       rw [hg, hu2] at hr'
       obtain ⟨v, vs, h3, h4, h5⟩ := hr'
       simp only [List.cons.injEq] at h3
       rw [h3.1]; exact h4
     · cases hx
theorem oneof {h : HV} (he : h.one = true) : h.el = true := by cases h <;> simp_all [HV.one, HV.el]
end Sm
