/-
  A layer of one's own: text B.
-/
import Derived.Test.YtkephaeefknlbaaSmA
set_option linter.unusedVariables false
set_option linter.unusedSimpArgs false
namespace Sm
open Go

/-- What a slot holds: a value, or the address of a private box. -/
inductive EV where
  | h (x : HV)
  | lp (k off : Nat)
  deriving Inhabited

inductive Opd where
  | s (t : Nat)
  | c (v : Value)
  | f (g : Nat)
  deriving Inhabited

def lk {α : Type} : List (Nat × α) → Nat → Option α
  | [], _ => none
  | (k, h) :: r, t => if k = t then some h else lk r t

def upd {α : Type} (f : Nat → Option α) (d : Nat) (x : α) : Nat → Option α := fun i => if d = i then some x else f i

structure Env where
  sl : Nat → Option EV
  bx : Nat → Option (List HV)

def Env.get (e : Env) (t : Nat) : Option EV := e.sl t
def Env.box (e : Env) (k : Nat) : Option (List HV) := e.bx k
def Env.put (e : Env) (d : Option Nat) (x : EV) : Env :=
  match d with
  | some d => ⟨upd e.sl d x, e.bx⟩
  | none => e
def Env.setb (e : Env) (k : Nat) (cs : List HV) : Env := ⟨e.sl, upd e.bx k cs⟩
def Env.of (sl : List (Nat × EV)) (bx : List (Nat × List HV)) : Env := ⟨lk sl, lk bx⟩
def Env.opd (e : Env) : Opd → Option EV
  | .s t => e.get t
  | .c v => some (.h (.v v))
  | .f g => some (.h (.fn g []))
def Env.hv (e : Env) (x : Opd) : Option HV :=
  match e.opd x with
  | some (.h h) => some h
  | _ => none
def Env.hvs (e : Env) : List Opd → Option (List HV)
  | [] => some []
  | x :: xs => match e.hv x, e.hvs xs with
    | some h, some hs => some (h :: hs)
    | _, _ => none

def Heap.upd (H : Heap) (b : Nat) (r : Option Res) : Heap := fun a => if a = b then r else H a
/-- What is told by h is told by h', too. -/
def Weak (h h' : HV) : Prop := ∀ ν K w u, rep ν K w h u → rep ν K w h' u
def WeakL : List HV → List HV → Prop
  | [], [] => True
  | a :: as, b :: bs => Weak a b ∧ WeakL as bs
  | _, _ => False
def EWeak : EV → EV → Prop
  | .h a, .h b => Weak a b
  | _, _ => False
def RWeak : Res → Res → Prop
  | .obj cs', .obj cs => WeakL cs' cs ∧ cs.all HV.one = true
  | _, _ => False
/-- All that the left tells the right tells, or more. -/
def Heap.sub (H H' : Heap) : Prop := ∀ b r, H b = some r → ∃ r', H' b = some r' ∧ (r' = r ∨ RWeak r' r)

def setL {α : Type} : List α → Nat → List α → List α
  | cs, _, [] => cs
  | cs, off, v :: vs => setL (cs.set off v) (off + 1) vs

def isShift : BinOp → Bool
  | .shl | .shr => true
  | _ => false
def intOp (op : BinOp) (k : IntKind) (a : Int) (k' : IntKind) (b : Int) : Option HV :=
  match op with
  | .add => if k = k' then some (.v (.int k (k.wrap (a + b)))) else none
  | .sub => if k = k' then some (.v (.int k (k.wrap (a - b)))) else none
  | .mul => if k = k' then some (.v (.int k (k.wrap (a * b)))) else none
  | .quo => if k = k' ∧ b ≠ 0 then some (.v (.int k (k.wrap (a.tdiv b)))) else none
  | .rem => if k = k' ∧ b ≠ 0 then some (.v (.int k (a.tmod b))) else none
  | .and => if k = k' then some (.v (.int k (k.wrap (BitVec.ofInt k.bits a &&& BitVec.ofInt k.bits b).toNat))) else none
  | .or => if k = k' then some (.v (.int k (k.wrap (BitVec.ofInt k.bits a ||| BitVec.ofInt k.bits b).toNat))) else none
  | .xor => if k = k' then some (.v (.int k (k.wrap (BitVec.ofInt k.bits a ^^^ BitVec.ofInt k.bits b).toNat))) else none
  | .andNot => if k = k' then some (.v (.int k (k.wrap (BitVec.ofInt k.bits a &&& ~~~BitVec.ofInt k.bits b).toNat))) else none
  | .shl => if 0 ≤ b then some (.v (.int k (k.wrap (a * 2 ^ (min b.toNat k.bits))))) else none
  | .shr => if 0 ≤ b then some (.v (.int k (a.fdiv (2 ^ (min b.toNat k.bits))))) else none
  | .eql => if k = k' then some (.v (.bool (a == b))) else none
  | .neq => if k = k' then some (.v (.bool (a != b))) else none
  | .lss => if k = k' then some (.v (.bool (decide (a < b)))) else none
  | .leq => if k = k' then some (.v (.bool (decide (a ≤ b)))) else none
  | .gtr => if k = k' then some (.v (.bool (decide (a > b)))) else none
  | .geq => if k = k' then some (.v (.bool (decide (a ≥ b)))) else none

def strOp (op : BinOp) (x y : ByteArray) : Option HV :=
  match op with
  | .add => if x.size + y.size ≤ 9223372036854775807 then some (.v (.string (x ++ y))) else none
  | .eql => some (.v (.bool (x.toList == y.toList)))
  | .neq => some (.v (.bool (!(x.toList == y.toList))))
  | .lss => some (.v (.bool (Op.bytesLess x.toList y.toList)))
  | .leq => some (.v (.bool (Op.bytesLess x.toList y.toList || x.toList == y.toList)))
  | .gtr => some (.v (.bool (!(Op.bytesLess x.toList y.toList || x.toList == y.toList))))
  | .geq => some (.v (.bool (!(Op.bytesLess x.toList y.toList))))
  | _ => none

/-- The kinds of cells that are told apart by '=='. -/
inductive Lf where
  | b | i | s
  deriving DecidableEq, Inhabited
/-- '==' of scalars. -/
def eqs (k : Lf) (x y : HV) : Option Bool :=
  match k, x, y with
  | .i, .v (.int k a), .v (.int k' b) => if k = k' then some (a == b) else none
  | .b, .v (.bool a), .v (.bool b) => some (a == b)
  | .s, .v (.string a), .v (.string b) => some (a == b)
  | _, _, _ => none
def eqL : List Lf → List HV → List HV → Option Bool
  | [], [], [] => some true
  | k :: ks, x :: xs, y :: ys => match eqs k x y, eqL ks xs ys with
    | some a, some b => some (a && b)
    | _, _ => none
  | _, _, _ => none
inductive EqK where
  | bool | ptr | fnc | slc | ag (ks : List Lf)
  deriving DecidableEq, Inhabited

def eqv (k : EqK) (x y : HV) : Option Bool :=
  match k with
  | .bool => match x, y with
    | .v (.bool a), .v (.bool b) => some (a == b)
    | _, _ => none
  | .ag ks => match x, y with
    | .ag xs, .ag ys => eqL ks xs ys
    | _, _ => none
  | .ptr => match x, y with
    | .v (.pointer none), .v (.pointer b) => some b.isNone
    | .v (.pointer (some _)), .v (.pointer none) => some false
    | .rp _, .v (.pointer none) => some false
    | _, _ => none
  | .fnc => match x, y with
    | .v .nilFunc, .v .nilFunc => some true
    | .fn _ _, .v .nilFunc => some false
    | _, _ => none
  | .slc => match x, y with
    | .v (.slice none _ _), .v (.slice none _ _) => some true
    | .sl _ sz (_ :: _), .v (.slice none _ _) => if sz = 0 then none else some false
    | _, _ => none

/-- Operations that only answer; the answer may not be told for sure. -/
inductive NdOp where
  | isnil (ne : Bool)
  deriving DecidableEq, Inhabited
def ndR (f : NdOp) (hs : List HV) : Option (HV → Prop) :=
  match f, hs with
  | .isnil ne, [.v (.slice none _ _)] => some fun h => h = .v (.bool (!ne))
  | .isnil ne, [.sl _ _ es] => some fun h => ∃ t, (t = true → es = []) ∧ h = .v (.bool (if ne then !t else t))
  | _, _ => none

inductive SOp where
  | mv (x : Opd)
  | pick (c a b : Opd)
  | int (op : BinOp) (x y : Opd)
  | str (op : BinOp) (x y : Opd)
  | eq (k : EqK) (ne : Bool) (x y : Opd)
  | not (x : Opd)
  | neg (x : Opd)
  | conv (k : IntKind) (x : Opd)
  | idc (x : Opd)
  | alloc (loc : Option Nat) (cs : List HV)
  | box (loc : Option Nat) (n : Nat) (x : Opd)
  | build (zero : List HV) (ps : List (Nat × Nat × Opd))
  | bslice (sz : Nat) (ps : List Opd)
  | load (agg : Bool) (n : Nat) (x : Opd)
  | store (n : Nat) (a x : Opd)
  | nilc (x : Opd)
  | fld (off : Nat) (x : Opd)
  | field (agg : Bool) (off n : Nat) (x : Opd)
  | idx (sz : Nat) (x i : Opd)
  | aidx (len sz : Nat) (x i : Opd)
  | sidx (x i : Opd)
  | len (x : Opd)
  | slen (x : Opd)
  | app (sz bytes : Nat) (x y : Opd)
  | call (g : Nat) (args : List Opd)
  | callv (x : Opd) (args : List Opd)
  | mkfn (g : Nat) (caps : List Opd)
  | ext (x : Opd) (i : Nat)
  | slc (sz : Nat) (x : Opd) (lo hi mx : Option Opd)
  | ssl (x : Opd) (lo hi : Option Opd)
  | mm (mx : Bool) (x y : Opd)
  | nd (f : NdOp) (xs : List Opd)
  deriving Inhabited

def mkv (agg : Bool) (cs : List HV) : Option HV :=
  if agg then some (.ag cs) else match cs with
    | [h] => some h
    | _ => none

def loadv (agg : Bool) (n off : Nat) (cs : List HV) : Option HV :=
  if off + n ≤ cs.length then mkv agg ((cs.drop off).take n) else none

def bnd (e : Env) (d : Nat) : Option Opd → Option Int
  | none => some d
  | some x => match e.hv x with
    | some (.v (.int _ n)) => some n
    | _ => none

def buildv : List HV → List (Nat × Nat × Option HV) → Option (List HV)
  | z, [] => some z
  | z, (off, n, some h) :: r => if h.ncells = n ∧ h.el = true ∧ off + n ≤ z.length then buildv (setL z off h.cells) r else none
  | _, (_, _, none) :: _ => none

def rdv : HV → Option (Nat × List HV)
  | .sl _ sz es => some (sz, es)
  | .v (.slice none 0 0) => some (0, [])
  | _ => none

/-- Operations that make nothing and write nothing: what they answer. -/
def SOp.ev (o : SOp) (e : Env) (H : Heap) : Option EV :=
  match o with
  | .mv x => e.opd x
  | .pick c a b => match e.hv c with
    | some (.v (.bool t)) => if t then e.opd a else e.opd b
    | _ => none
  | .int op x y => match e.hv x, e.hv y with
    | some (.v (.int k a)), some (.v (.int k' b)) => (intOp op k a k' b).map .h
    | _, _ => none
  | .str op x y => match e.hv x, e.hv y with
    | some (.v (.string a)), some (.v (.string b)) => (strOp op a b).map .h
    | _, _ => none
  | .eq k ne x y => match e.hv x, e.hv y with
    | some a, some b => (eqv k a b).map fun t => .h (.v (.bool (if ne then !t else t)))
    | _, _ => none
  | .not x => match e.hv x with
    | some (.v (.bool t)) => some (.h (.v (.bool !t)))
    | _ => none
  | .neg x => match e.hv x with
    | some (.v (.int k n)) => some (.h (.v (.int k (k.wrap (0 - n)))))
    | _ => none
  | .conv k x => match e.hv x with
    | some (.v (.int _ n)) => some (.h (.v (.int k (k.wrap n))))
    | _ => none
  | .idc x => match e.hv x with
    | some (.v (.string s)) => some (.h (.v (.string s)))
    | _ => none
  | .build z ps => (buildv z (ps.map fun p => (p.1, p.2.1, e.hv p.2.2))).map fun cs => .h (.ag cs)
  | .load agg n x => match e.opd x with
    | some (.h (.v (.pointer (some ⟨b, off, none⟩)))) => match H b with
      | some (.obj cs) => (loadv agg n off cs).map .h
      | _ => none
    | some (.h (.rp cs)) => (loadv agg n 0 cs).map .h
    | some (.lp k off) => match e.box k with
      | some cs => (loadv agg n off cs).map .h
      | none => none
    | _ => none
  | .nilc x => match e.opd x with
    | some (.h (.v (.pointer (some a)))) => some (.h (.v (.pointer (some a))))
    | some (.h (.rp cs)) => some (.h (.rp cs))
    | some (.lp k off) => some (.lp k off)
    | some (.h (.fn g caps)) => some (.h (.fn g caps))
    | _ => none
  | .fld off x => match e.opd x with
    | some (.h (.v (.pointer (some ⟨b, o, none⟩)))) => some (.h (.v (.pointer (some ⟨b, o + off, none⟩))))
    | some (.h (.rp cs)) => if off ≤ cs.length then some (.h (.rp (cs.drop off))) else none
    | some (.lp k o) => some (.lp k (o + off))
    | _ => none
  | .field agg off n x => match e.hv x with
    | some (.ag cs) => (loadv agg n off cs).map .h
    | _ => none
  | .idx sz x i => match e.hv x, e.hv i with
    | some (.sl _ sz' es), some (.v (.int _ n)) => if sz' = sz ∧ 0 ≤ n then (es[n.toNat]?).map fun h => .h (.rp h.cells) else none
    | some (.v (.slice (some ⟨b, off, none⟩) l _)), some (.v (.int _ n)) => if 0 ≤ n ∧ n < l then some (.h (.v (.pointer (some ⟨b, off + n.toNat * sz, none⟩)))) else none
    | _, _ => none
  | .aidx l sz x i => match e.opd x, e.hv i with
    | some (.h (.v (.pointer (some ⟨b, off, none⟩)))), some (.v (.int _ n)) => if 0 ≤ n ∧ n < l then some (.h (.v (.pointer (some ⟨b, off + n.toNat * sz, none⟩)))) else none
    | some (.lp k off), some (.v (.int _ n)) => if 0 ≤ n ∧ n < l then some (.lp k (off + n.toNat * sz)) else none
    | some (.h (.rp cs)), some (.v (.int _ n)) => if 0 ≤ n ∧ n < l ∧ n.toNat * sz ≤ cs.length then some (.h (.rp (cs.drop (n.toNat * sz)))) else none
    | _, _ => none
  | .sidx x i => match e.hv x, e.hv i with
    | some (.v (.string s)), some (.v (.int _ n)) => if h : 0 ≤ n ∧ n.toNat < s.size then some (.h (.v (.int .u8 (s[n.toNat]'h.2).toNat))) else none
    | _, _ => none
  | .len x => match e.hv x with
    | some (.sl _ _ es) => some (.h (.v (.int .i64 es.length)))
    | some (.v (.slice _ n _)) => some (.h (.v (.int .i64 n)))
    | _ => none
  | .slen x => match e.hv x with
    | some (.v (.string s)) => some (.h (.v (.int .i64 s.size)))
    | _ => none
  | .mkfn g caps => (e.hvs caps).map fun hs => .h (.fn g hs)
  | .ext x i => match e.hv x with
    | some (.tu vs) => (vs[i]?).map .h
    | _ => none
  | .ssl x lo hi => match e.hv x with
    | some (.v (.string s)) => match bnd e 0 lo, bnd e s.size hi with
      | some l, some h => if 0 ≤ l ∧ l ≤ h ∧ h ≤ s.size then some (.h (.v (.string (s.extract l.toNat h.toNat)))) else none
      | _, _ => none
    | _ => none
  | .slc sz x lo hi mx => match e.hv x with
    | some (.v (.slice none 0 0)) => match bnd e 0 lo, bnd e 0 hi, bnd e 0 mx with
      | some l, some h, some m => if l = 0 ∧ h = 0 ∧ m = 0 then some (.h (.v (.slice none 0 0))) else none
      | _, _, _ => none
    | some (.sl tk sz' es) => match bnd e 0 lo, bnd e es.length hi with
      | some l, some h => if sz' = sz ∧ 0 ≤ l ∧ l ≤ h ∧ h ≤ es.length then
          match mx with
          | none => some (.h (.sl (if h = es.length ∧ l = 0 then tk else .no) sz ((es.drop l.toNat).take (h.toNat - l.toNat))))
          | some m => match e.hv m with
            | some (.v (.int _ m)) => if m = h then some (.h (.sl .full sz ((es.drop l.toNat).take (h.toNat - l.toNat)))) else none
            | _ => none
        else none
      | _, _ => none
    | _ => none
  | .mm mx x y => match e.hv x, e.hv y with
    | some (.v (.int k a)), some (.v (.int k' b)) => if k = k' then some (.h (.v (.int k (if mx then (if b > a then b else a) else (if b < a then b else a))))) else none
    | _, _ => none
  | _ => none

def SOp.calm : SOp → Bool
  | .alloc .. | .box .. | .bslice .. | .store .. | .app .. | .call .. | .callv .. | .nd .. => false
  | _ => true

abbrev SpecT := Nat → List HV → Heap → (HV → Heap → Prop) → Prop

def HV.undef : HV := .v Go.undef

/-- One operation, with what is to hold behind it. -/
def SOp.step (S : SpecT) (o : SOp) (e : Env) (H : Heap) (K : EV → Env → Heap → Prop) : Prop :=
  match o with
  | .alloc loc cs => match loc with
    | some k => e.box k = none ∧ K (.lp k 0) (e.setb k cs) H
    | none => ∀ b, H b = none → K (.h (.v (.pointer (some ⟨b, 0, none⟩)))) e (H.upd b (some (.obj cs)))
  | .box loc n x => match e.hv x with
    | some h => h.ncells = n ∧ h.el = true ∧ match loc with
      | some k => e.box k = none ∧ K (.lp k 0) (e.setb k h.cells) H
      | none => ∀ b, H b = none → K (.h (.v (.pointer (some ⟨b, 0, none⟩)))) e (H.upd b (some (.obj h.cells)))
    | none => False
  | .bslice sz ps => match e.hvs ps with
    | some hs => hs.all HV.el = true ∧ (∀ h ∈ hs, h.ncells = sz) ∧ K (.h (.sl .full sz hs)) e H
    | none => False
  | .store n a x => match e.hv x with
    | some h => h.ncells = n ∧ h.el = true ∧ match e.opd a with
      | some (.h (.v (.pointer (some ⟨b, off, none⟩)))) => match H b with
        | some (.obj cs) => off + n ≤ cs.length ∧ K (.h .undef) e (H.upd b (some (.obj (setL cs off h.cells))))
        | _ => False
      | some (.lp k off) => match e.box k with
        | some cs => off + n ≤ cs.length ∧ K (.h .undef) (e.setb k (setL cs off h.cells)) H
        | none => False
      | _ => False
    | none => False
  | .app sz bytes x y => match e.hv x, (e.hv y).bind rdv with
    | some (.v (.slice none 0 0)), some (sz', ys) => (ys ≠ [] → sz' = sz) ∧ (ys = [] → K (.h (.v (.slice none 0 0))) e H) ∧
        (ys ≠ [] → ys.length * bytes ≤ 140737488355328 ∧ ∀ b c, H b = none → K (.h (.sl (.tip b c) sz ys)) e (H.upd b (some (.tip (ys.length * sz) (c * sz)))))
    | some (.sl .full sz1 xs), some (sz', ys) => sz1 = sz ∧ (ys ≠ [] → sz' = sz) ∧ (ys = [] → K (.h (.sl .full sz xs)) e H) ∧
        (ys ≠ [] → (xs.length + ys.length) * bytes ≤ 140737488355328 ∧ ∀ b c, H b = none → K (.h (.sl (.tip b c) sz (xs ++ ys))) e (H.upd b (some (.tip ((xs.length + ys.length) * sz) (c * sz)))))
    | some (.sl (.tip b c) sz1 xs), some (sz', ys) => sz1 = sz ∧ (ys ≠ [] → sz' = sz) ∧ H b = some (.tip (xs.length * sz) (c * sz)) ∧ (xs.length + ys.length) * bytes ≤ 140737488355328 ∧
        ∀ b' c', (b' = b ∨ H b' = none) →
          K (.h (.sl (.tip b' c') sz (xs ++ ys))) e ((H.upd b none).upd b' (some (.tip ((xs.length + ys.length) * sz) (c' * sz))))
    | _, _ => False
  | .call g args => match e.hvs args with
    | some hs => S g hs H (fun h H' => K (.h h) e H')
    | none => False
  | .callv x args => match e.hv x, e.hvs args with
    | some (.fn g caps), some hs => S g (hs ++ caps) H (fun h H' => K (.h h) e H')
    | _, _ => False
  | .nd f xs => match (e.hvs xs).bind (ndR f) with
    | some R => ∀ h, R h → K (.h h) e H
    | none => False
  | o => match o.ev e H with
    | some x => K x e H
    | none => False

structure SOper where
  dst : Option Nat
  op : SOp
  guard : Option (Nat × Bool)
  deriving Inhabited

/-- One operation of a region. -/
def rsem1 (S : SpecT) (o : SOper) (e : Env) (H : Heap) (K : Env → Heap → Prop) : Prop :=
  match o.guard with
  | none => o.op.step S e H fun x e' H' => K (e'.put o.dst x) H'
  | some (t, want) => match e.get t with
    | some (.h (.v (.bool b))) =>
      (b = want → o.op.step S (e.put (some t) (.h (.v (.bool want)))) H fun x e' H' => K (e'.put o.dst x) H') ∧
      (b = !want → K ((e.put (some t) (.h (.v (.bool (!want))))).put o.dst (.h .undef)) H)
    | some (.h (.v (.tuple _))) => K (e.put o.dst (.h .undef)) H
    | _ => False

/-- The operations of a region, one behind the other. -/
def rsem (S : SpecT) : List SOper → Env → Heap → (Env → Heap → Prop) → Prop
  | [], e, H, K => K e H
  | o :: os, e, H, K => rsem1 S o e H fun e' H' => rsem S os e' H' K

/-- An operation of a region that draws its order; the places of the reads that must be as they were behind it. -/
structure DOper where
  o : SOper
  rc : List Nat
  deriving Inhabited

def rc1 (x : SOper) (e : Env) (H : Heap) : Prop :=
  match x.dst, x.guard with
  | some d, none => x.op.ev e H = e.get d
  | some d, some (t, want) => e.get t = some (.h (.v (.bool want))) → x.op.ev e H = e.get d
  | none, _ => False
def rcok (L : List DOper) : List Nat → Env → Heap → Prop
  | [], _, _ => True
  | z :: zs, e, H => rc1 (L[z]!).o e H ∧ rcok L zs e H

def dsem (S : SpecT) (L : List DOper) : List Nat → Env → Heap → (Env → Heap → Prop) → Prop
  | [], e, H, K => K e H
  | i :: is, e, H, K => rsem1 S (L[i]!).o e H fun e' H' => rcok L (L[i]!).rc e' H' ∧ dsem S L is e' H' K

inductive SC where
  | skip
  | reg (ops : List SOper)
  | dreg (perm : List Nat) (ops : List DOper)
  | seq (a b : SC)
  | cond (c : Opd) (thn els : SC)
  | block (id : Nat) (body : SC)
  | loop (body : SC)
  | exit (id : Nat)
  | ret
  deriving Inhabited

inductive SEx where
  | normal | exit (id : Nat) | ret
  deriving DecidableEq

/-- All that the left tells of slots and boxes the right tells, or more. -/
structure Env.le (L e : Env) : Prop where
  sl : ∀ t x, L.get t = some x → ∃ x', e.get t = some x' ∧ (x' = x ∨ EWeak x' x)
  bx : ∀ k cs, L.box k = some cs → ∃ cs', e.box k = some cs' ∧ (cs' = cs ∨ WeakL cs' cs ∧ cs.all HV.one = true)
  lp : ∀ t k o, L.get t = some (.lp k o) → (L.box k).isSome = true

def csem (S : SpecT) : SC → Env → Heap → (SEx → Env → Heap → Prop) → Prop
  | .skip, e, H, Q => Q .normal e H
  | .reg ops, e, H, Q => rsem S ops e H (Q .normal)
  | .dreg _ ops, e, H, Q => dsem S ops (List.range ops.length) e H (Q .normal)
  | .seq a b, e, H, Q => csem S a e H fun ex e' H' => match ex with
    | .normal => ∃ e1 H1, (e1 = e' ∨ e1.le e') ∧ H1.sub H' ∧ csem S b e1 H1 Q
    | ex => Q ex e' H'
  | .cond c a b, e, H, Q => match e.hv c with
    | some (.v (.bool t)) => (t = true → csem S a e H Q) ∧ (t = false → csem S b e H Q)
    | _ => False
  | .block id b, e, H, Q => csem S b e H fun ex e' H' => match ex with
    | .exit i => if i = id then Q .normal e' H' else Q (.exit i) e' H'
    | ex => Q ex e' H'
  | .loop b, e, H, Q => ∃ I : Nat → Env → Heap → Prop, (∃ n e1 H1, e1.le e ∧ H1.sub H ∧ I n e1 H1) ∧
      ∀ n e H, I n e H → csem S b e H fun ex e' H' => match ex with
        | .normal => ∃ m e1 H1, m < n ∧ e1.le e' ∧ H1.sub H' ∧ I m e1 H1
        | ex => Q ex e' H'
  | .exit id, e, H, Q => Q (.exit id) e H
  | .ret, e, H, Q => Q .ret e H

inductive SRes where
  | t (s : Nat)
  | cell (s : Nat) (agg : Bool) (n : Nat)

structure SF where
  np : Nat
  N : Nat
  res : List SRes
  body : SC

def SRes.val (e : Env) (H : Heap) : SRes → Option HV
  | .t s => e.hv (.s s)
  | .cell s agg n => match (SOp.load agg n (.s s)).ev e H with
    | some (.h h) => some h
    | _ => none
def resList (e : Env) (H : Heap) : List SRes → Option (List HV)
  | [] => some []
  | r :: rs => match r.val e H, resList e H rs with
    | some h, some hs => some (h :: hs)
    | _, _ => none
def tupled : List HV → HV
  | [h] => h
  | hs => .tu hs

def initE (args : List HV) : Env := ⟨fun t => (args[t]?).map .h, fun _ => none⟩

def SF.sem (S : SpecT) (f : SF) (args : List HV) (H : Heap) (Q : HV → Heap → Prop) : Prop :=
  args.length = f.np ∧ csem S f.body (initE args) H fun ex e H' => (ex = .normal ∨ ex = .ret) ∧
    match resList e H' f.res with
    | some hs => ∃ h' H'', Weak (tupled hs) h' ∧ H''.sub H' ∧ Q h' H''
    | none => False

end Sm
