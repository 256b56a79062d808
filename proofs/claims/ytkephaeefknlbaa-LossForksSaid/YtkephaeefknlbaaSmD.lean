/-
  A layer of one's own: text D.
-/
import Derived.Test.YtkephaeefknlbaaSmC
set_option linter.unusedVariables false
set_option linter.unusedSimpArgs false
set_option linter.unnecessarySimpa false
namespace Sm
open Go

def vbeq : Value → Value → Bool
  | .bool a, .bool b => decide (a = b)
  | .int k a, .int k' b => decide (k = k') && decide (a = b)
  | .string a, .string b => decide (a = b)
  | .pointer none, .pointer none => true
  | .slice none 0 0, .slice none 0 0 => true
  | .map none, .map none => true
  | .nilFunc, .nilFunc => true
  | .nilIface, .nilIface => true
  | _, _ => false

theorem vbeq_eq {u v : Value} (h : vbeq u v = true) : u = v ∧ v.oneCell' = true := by
  unfold vbeq at h
  split at h <;> simp_all [Value.oneCell']

def okOpd (ν : Nat → Option Nat) : Operand → Opd → Bool
  | .tmp t, .s t' => decide (t = t')
  | .const v, .c v' => vbeq v v'
  | .func f, .f g => decide (ν f = some g)
  | _, _ => false
def okOpds (ν : Nat → Option Nat) : List Operand → List Opd → Bool
  | [], [] => true
  | x :: xs, y :: ys => okOpd ν x y && okOpds ν xs ys
  | _, _ => false
def okOpd? (ν : Nat → Option Nat) : Option Operand → Option Opd → Bool
  | none, none => true
  | some x, some y => okOpd ν x y
  | _, _ => false

def szOf (P : Program) (T : TypeId) : Option Nat := (P.info? T).map (·.size)
def aggOf (P : Program) (T : TypeId) : Option Bool := (P.underlying T).map fun d => match d with
  | .struct _ => true
  | .array _ _ => true
  | _ => false
def elemOf (P : Program) (T : TypeId) : Option TypeId := match P.underlying T with
  | some (.slice e) => some e
  | _ => none
def arrOf (P : Program) (T : TypeId) : Option (Nat × TypeId) := match P.underlying T with
  | some (.array n e) => some (n, e)
  | _ => none
def fieldOf (P : Program) (T : TypeId) (f : Nat) : Option Field := match P.underlying T with
  | some (.struct fs) => fs[f]?
  | _ => none
def isStr (P : Program) (T : TypeId) : Bool := match P.underlying T with
  | some .string => true
  | _ => false
def intOf' (P : Program) (T : TypeId) : Option IntKind := match P.underlying T with
  | some (.int k) => some k
  | _ => none

def zeq : List Value → List HV → Bool
  | [], [] => true
  | u :: us, .v x :: cs => vbeq u x && zeq us cs
  | _, _ => false

def okParts (P : Program) (ν : Nat → Option Nat) (T : TypeId) : List (Nat × Operand) → List (Nat × Nat × Opd) → Bool
  | [], [] => true
  | (i, x) :: xs, (off, n, y) :: ys => (match fieldOf P T i with
      | some f => decide (f.offset = off) && decide (szOf P f.type = some n)
      | none => false) && okOpd ν x y && okParts P ν T xs ys
  | _, _ => false
def okSeq (ν : Nat → Option Nat) (k : Nat) : List (Nat × Operand) → List Opd → Bool
  | [], [] => true
  | (i, x) :: xs, y :: ys => decide (i = k) && okOpd ν x y && okSeq ν (k + 1) xs ys
  | _, _ => false

def flatF (P : Program) (chk : TypeId → Option (List Lf)) : Nat → List Field → Option (List Lf)
  | _, [] => some []
  | off, f :: fs => if (f.name == "_") = false ∧ f.offset = off then match chk f.type with
      | some ks => (flatF P chk (off + ks.length) fs).map (ks ++ ·)
      | none => none
    else none
/-- The kinds of the cells of a type whose values are numbers, truths and texts alone. -/
def flatT (P : Program) : Nat → TypeId → Option (List Lf)
  | 0, _ => none
  | d + 1, t => match P.underlying t with
    | some .bool => if szOf P t = some 1 then some [.b] else none
    | some (.int _) => if szOf P t = some 1 then some [.i] else none
    | some .string => if szOf P t = some 1 then some [.s] else none
    | some (.struct fs) => if P.stoodInHeld t = false then match flatF P (flatT P d) 0 fs.toList with
        | some ks => if szOf P t = some ks.length then some ks else none
        | none => none
      else none
    | some (.array n e) => match flatT P d e with
      | some ks => if szOf P t = some (n * ks.length) then some (List.replicate n ks).flatten else none
      | none => none
    | _ => none

def okEq (P : Program) (t : TypeId) : EqK → Bool
  | .bool => match P.underlying t with
    | some .bool => true
    | _ => false
  | .ptr => match P.underlying t with
    | some (.pointer _) => true
    | _ => false
  | .fnc => match P.underlying t with
    | some (.func _ _ _) => true
    | _ => false
  | .slc => match P.underlying t with
    | some (.slice _) => true
    | _ => false
  | .ag ks => decide (flatT P 20 t = some ks) && !P.eqGuardType P.depth t && decide (aggOf P t = some true)

def isNilC : Operand → Bool
  | .const (.slice none 0 0) => true
  | _ => false
def chkNd (P : Program) (ν : Nat → Option Nat) (o : Op) (f : NdOp) (xs : List Opd) : Bool :=
  match f, o, xs with
  | .isnil ne, .binOp op t x y _, [x'] => decide (op = if ne then .neq else .eql) && isNilC y && okEq P t .slc && okOpd ν x x'
  | _, _, _ => false

def chkOp (P : Program) (ν : Nat → Option Nat) (o : Oper) (s : SOp) : Bool :=
  match o.op, s with
  | .move x, .mv y => okOpd ν x y
  | .assign x, .mv y => okOpd ν x y
  | .pick c a b, .pick c' a' b' => okOpd ν c c' && okOpd ν a a' && okOpd ν b b'
  | .binOp op _ x y _, .int op' x' y' => decide (op = op') && okOpd ν x x' && okOpd ν y y'
  | .binOp op _ x y _, .str op' x' y' => decide (op = op') && okOpd ν x x' && okOpd ν y y'
  | .binOp .eql t x y _, .eq k false x' y' => okEq P t k && okOpd ν x x' && okOpd ν y y'
  | .binOp .neq t x y _, .eq k true x' y' => okEq P t k && okOpd ν x x' && okOpd ν y y'
  | .unOp .not _ x, .not y => okOpd ν x y
  | .unOp .neg _ x, .neg y => okOpd ν x y
  | .convert src dst x, .conv k y => (P.underlying src).isSome && decide (intOf' P dst = some k) && okOpd ν x y
  | .convert src dst x, .idc y => (P.underlying src).isSome && isStr P dst && okOpd ν x y
  | .alloc T, .alloc _ cs => match (P.info? T).bind (·.zero) with
    | some z => zeq z.cells.toList cs
    | none => false
  | .box T x, .box _ n y => okOpd ν x y
  | .build T ps, .build z qs => (match (P.info? T).bind (·.zero) with
    | some zv => zeq zv.cells.toList z
    | none => false) && (match P.underlying T with
    | some (.struct fs) => fs.toList.all fun f => (szOf P f.type).isSome
    | _ => false) && okParts P ν T ps.toList qs
  | .buildSlice T len ps, .bslice sz qs => match elemOf P T with
    | some e => decide (szOf P e = some sz) && decide (0 < sz) && decide (len * sz ≤ 2 ^ 24) && decide (len = qs.length) && (match (P.info? e).bind (·.zero) with
      | some z => decide (z.cells.size = sz)
      | none => false) && okSeq ν 0 ps.toList qs
    | none => false
  | .load T x, .load agg n y => decide (szOf P T = some n) && decide (aggOf P T = some agg) && (agg || decide (n = 1)) && okOpd ν x y
  | .store T a x, .store n a' x' => decide (szOf P T = some n) && okOpd ν a a' && okOpd ν x x'
  | .nilCheck x, .nilc y => okOpd ν x y
  | .fieldAddr T x f, .fld off y => (match fieldOf P T f with
    | some fd => decide (fd.offset = off) && (match szOf P fd.type with
      | some (_ + 1) => true
      | _ => false)
    | none => false) && okOpd ν x y
  | .field T x f, .field agg off n y => (match fieldOf P T f with
    | some fd => decide (fd.offset = off) && decide (szOf P fd.type = some n) && decide (aggOf P fd.type = some agg) && (agg || decide (n = 1))
    | none => false) && okOpd ν x y
  | .indexAddr T x i, .idx sz y j => (match elemOf P T with
    | some e => decide (szOf P e = some sz)
    | none => false) && okOpd ν x y && okOpd ν i j
  | .indexAddr T x i, .aidx len sz y j => (match arrOf P T with
    | some (n, e) => decide (n = len) && decide (szOf P e = some sz)
    | none => false) && okOpd ν x y && okOpd ν i j
  | .index T x i, .sidx y j => isStr P T && okOpd ν x y && okOpd ν i j
  | .call c, .len y => match c.callee, c.args.toList, c.argTypes.toList with
    | .builtin .len, [x], [t] => (elemOf P t).isSome && okOpd ν x y
    | _, _, _ => false
  | .call c, .slen y => match c.callee, c.args.toList, c.argTypes.toList with
    | .builtin .len, [x], [t] => isStr P t && okOpd ν x y
    | _, _, _ => false
  | .call c, .app sz bytes x' y' => match c.callee, c.args.toList, c.argTypes.toList with
    | .builtin .append, [x, y], [t, t'] => (match elemOf P t with
      | some e => (match P.info? e with
        | some i => decide (i.size = sz) && decide (i.bytes = bytes) && decide (0 < sz) && decide (0 < bytes) && (match i.zero with
          | some z => decide (z.cells.size = sz)
          | none => false)
        | none => false)
      | none => false) && decide (t' = t) && okOpd ν x x' && okOpd ν y y'
    | _, _, _ => false
  | .call c, .mm mx x' y' => match c.callee, c.args.toList with
    | .builtin .max, [x, y] => mx && okOpd ν x x' && okOpd ν y y'
    | .builtin .min, [x, y] => !mx && okOpd ν x x' && okOpd ν y y'
    | _, _ => false
  | .call c, .call g ys => match c.callee with
    | .value (.func f) => decide (ν f = some g) && okOpds ν c.args.toList ys
    | _ => false
  | .call c, .callv y ys => match c.callee with
    | .value x => okOpd ν x y && okOpds ν c.args.toList ys
    | _ => false
  | .makeFunc (.func f) first caps, .mkfn g ys => first.isEmpty && decide (ν f = some g) && okOpds ν caps.toList ys
  | .extract x i, .ext y j => decide (i = j) && okOpd ν x y
  | .slice T x lo hi mx, .slc sz x' lo' hi' mx' => (match elemOf P T with
    | some e => decide (szOf P e = some sz)
    | none => false) && okOpd ν x x' && okOpd? ν lo lo' && okOpd? ν hi hi' && okOpd? ν mx mx' && (mx.isNone || hi.isSome)
  | .slice T x lo hi none, .ssl x' lo' hi' => isStr P T && okOpd ν x x' && okOpd? ν lo lo' && okOpd? ν hi hi'
  | op, .nd f xs => chkNd P ν op f xs
  | _, _ => false

section
variable {P : Program} {w : World}
theorem run_sizeOf {T n} (h : szOf P T = some n) : (Go.sizeOf T).run P w = .ok n w := by
  unfold szOf at h
  cases hi : P.info? T with
  | none => simp [hi] at h
  | some i => simp [hi] at h; simp [Go.sizeOf, typeInfo, hi, h]
theorem run_isAgg {T b} (h : aggOf P T = some b) : (isAgg T).run P w = .ok b w := by
  unfold aggOf at h
  cases hu : P.underlying T with
  | none => simp [hu] at h
  | some d =>
    simp only [hu, Option.map_some, Option.some.injEq] at h
    simp only [isAgg, Sem.run_bind, run_underlying hu, Result.andThen_ok]
    cases d <;> simp_all
theorem elemOf_under {T e} (h : elemOf P T = some e) : P.underlying T = some (.slice e) := by
  unfold elemOf at h; split at h <;> simp_all
theorem arrOf_under {T n e} (h : arrOf P T = some (n, e)) : P.underlying T = some (.array n e) := by
  unfold arrOf at h; split at h <;> simp_all
theorem fieldOf_under {T f fd} (h : fieldOf P T f = some fd) : ∃ fs, P.underlying T = some (.struct fs) ∧ fs[f]? = some fd := by
  unfold fieldOf at h; split at h <;> simp_all
theorem isStr_under {T} (h : isStr P T = true) : P.underlying T = some .string := by
  unfold isStr at h; split at h <;> simp_all
theorem intOf_under {T k} (h : intOf' P T = some k) : P.underlying T = some (.int k) := by
  unfold intOf' at h; split at h <;> simp_all
end

theorem zeq_rep {ν K w} : ∀ {us : List Value} {cs : List HV}, zeq us cs = true → repL ν K w cs us ∧ cs.all HV.one = true
  | [], [], _ => by simp [repL]
  | [], _ :: _, h => by simp [zeq] at h
  | _ :: _, [], h => by simp [zeq] at h
  | u :: us, c :: cs, h => by
    cases c <;> simp only [zeq, Bool.and_eq_true, Bool.false_eq_true] at h
    obtain ⟨h1, h2⟩ := h
    obtain ⟨rfl, h3⟩ := vbeq_eq h1
    obtain ⟨h4, h5⟩ := zeq_rep (ν := ν) (K := K) (w := w) h2
    exact ⟨⟨u, us, rfl, by simp [rep], h4⟩, by simp only [List.all_cons, Bool.and_eq_true]; exact ⟨h3, h5⟩⟩

section
variable {P : Program} {ν : Nat → Option Nat} {w0 : World} {K0 : Nat → Nat} {H0 : Heap} {N : Nat} {e : Env} {H : Heap} {a : Act} {w : World} {K μ : Nat → Nat}

theorem opd_sound (h : St ν w0 K0 H0 N e H a w K μ) {x : Operand} {y : Opd} (hk : okOpd ν x y = true) {z : EV} (hz : e.opd y = some z) :
    repE ν K w μ z (a.eval x) ∧ z.live e := by
  cases x <;> cases y <;> simp only [okOpd, Bool.false_eq_true] at hk
  · rename_i t t'
    simp only [decide_eq_true_eq] at hk; subst hk
    exact h.slot _ _ hz
  · obtain ⟨rfl, _⟩ := vbeq_eq hk
    simp only [Env.opd, Option.some.injEq] at hz; subst hz
    exact ⟨by simp [repE, rep, Act.eval], trivial⟩
  · simp only [decide_eq_true_eq] at hk
    simp only [Env.opd, Option.some.injEq] at hz; subst hz
    exact ⟨by simp only [repE, rep, Act.eval]; exact ⟨_, [], hk, rfl, by simp [repL]⟩, trivial⟩

theorem hv_sound (h : St ν w0 K0 H0 N e H a w K μ) {x : Operand} {y : Opd} (hk : okOpd ν x y = true) {z : HV} (hz : e.hv y = some z) :
    rep ν K w z (a.eval x) := by
  unfold Env.hv at hz
  split at hz
  · simp only [Option.some.injEq] at hz; subst hz
    rename_i h1; exact (opd_sound h hk h1).1
  · cases hz

theorem hvs_sound (h : St ν w0 K0 H0 N e H a w K μ) : ∀ {xs : List Operand} {ys : List Opd}, okOpds ν xs ys = true → ∀ {zs : List HV}, e.hvs ys = some zs → repL ν K w zs (xs.map a.eval)
  | [], [], _, zs, hz => by simp [Env.hvs] at hz; subst hz; simp [repL]
  | [], _ :: _, hk, _, _ => by simp [okOpds] at hk
  | _ :: _, [], hk, _, _ => by simp [okOpds] at hk
  | x :: xs, y :: ys, hk, zs, hz => by
    simp only [okOpds, Bool.and_eq_true] at hk
    simp only [Env.hvs] at hz
    split at hz
    · rename_i h' hs' h1 h2
      simp only [Option.some.injEq] at hz; subst hz
      exact ⟨_, _, rfl, hv_sound h hk.1 h1, hvs_sound h hk.2 h2⟩
    · cases hz
end
end Sm
