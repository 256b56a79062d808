/-
  A layer of one's own: text G.
-/
import Derived.Test.YtkephaeefknlbaaSmF
set_option linter.unusedVariables false
set_option linter.unusedSimpArgs false
set_option linter.unnecessarySimpa false
namespace Sm
open Go

theorem arr1 {α : Type} {c : Array α} {x : α} (h : c.toList = [x]) : c = #[x] := Array.toList_inj.1 (by simpa using h)
theorem arr2 {α : Type} {c : Array α} {x y : α} (h : c.toList = [x, y]) : c = #[x, y] := Array.toList_inj.1 (by simpa using h)

section
variable {P : Program} {ν : Nat → Option Nat} {w0 : World} {K0 : Nat → Nat} {H0 : Heap} {N : Nat} {e : Env} {H : Heap} {a : Act} {w : World} {K μ : Nat → Nat} {o : Oper}

theorem ev_sidx (hst : St ν w0 K0 H0 N e H a w K μ) {T x i x' i'} (ho : o.op = .index T x i) (hT : isStr P T = true) (hx : okOpd ν x x' = true) (hi : okOpd ν i i' = true)
    {z} (hz : (SOp.sidx x' i').ev e H = some z) : Calm P ν K μ e a w o z := by
  have hu := isStr_under hT
  simp only [SOp.ev] at hz
  split at hz
  · rename_i s k n h1 h2
    have e1 := hv_sound hst hx h1
    have e2 := hv_sound hst hi h2
    simp only [rep] at e1 e2
    split at hz
    · rename_i hc
      simp only [Option.some.injEq] at hz; subst hz
      refine ⟨.int .u8 (s[n.toNat]'hc.2).toNat, ?_, by simp only [repE, rep], trivial⟩
      simp [execOp, ho, e1, e2, Instr.index, asIntOf, run_underlying hu, hc.1, hc.2]
    · cases hz
  · cases hz

theorem ev_len (hst : St ν w0 K0 H0 N e H a w K μ) {c x t x'} (ho : o.op = .call c) (hc : c.callee = .builtin .len) (hargs : c.args.toList = [x]) (hts : c.argTypes.toList = [t])
    (hT : (Sm.elemOf P t).isSome = true) (hx : okOpd ν x x' = true) {z} (hz : (SOp.len x').ev e H = some z) : Calm P ν K μ e a w o z := by
  have ha := arr1 hargs
  have ht := arr1 hts
  obtain ⟨el, hel⟩ := Option.isSome_iff_exists.1 hT
  have hu := elemOf_under hel
  have base : ∀ A n cap, a.eval x = .slice A n cap → (execOp a.eval o).run P w = .ok (.value (.int .i64 n)) w := by
    intro A n cap hs
    simp [execOp, ho, resolve, hc, ha, ht, invoke, builtin, hs, Builtin.len_, run_underlying hu, goInt]
  simp only [SOp.ev] at hz
  split at hz
  · rename_i tk sz es h1
    have e1 := hv_sound hst hx h1
    simp only [rep] at e1
    obtain ⟨A, cap, vals, g1, _⟩ := e1
    simp only [Option.some.injEq] at hz; subst hz
    exact ⟨_, base _ _ _ g1, by simp [repE, rep], trivial⟩
  · rename_i A n cap h1
    have e1 := hv_sound hst hx h1
    simp only [rep] at e1
    simp only [Option.some.injEq] at hz; subst hz
    exact ⟨_, base _ _ _ e1, by simp [repE, rep], trivial⟩
  · cases hz

theorem ev_slen (hst : St ν w0 K0 H0 N e H a w K μ) {c x t x'} (ho : o.op = .call c) (hc : c.callee = .builtin .len) (hargs : c.args.toList = [x]) (hts : c.argTypes.toList = [t])
    (hT : isStr P t = true) (hx : okOpd ν x x' = true) {z} (hz : (SOp.slen x').ev e H = some z) : Calm P ν K μ e a w o z := by
  have ha := arr1 hargs
  have ht := arr1 hts
  have hu := isStr_under hT
  simp only [SOp.ev] at hz
  split at hz
  · rename_i s h1
    have e1 := hv_sound hst hx h1
    simp only [rep] at e1
    simp only [Option.some.injEq] at hz; subst hz
    refine ⟨.int .i64 s.size, ?_, by simp [repE, rep], trivial⟩
    simp [execOp, ho, resolve, hc, ha, ht, invoke, builtin, e1, Builtin.len_, run_underlying hu, goInt]
  · cases hz

theorem ev_mm (hst : St ν w0 K0 H0 N e H a w K μ) {c x y x' y'} {mx : Bool} (ho : o.op = .call c) (hc : c.callee = .builtin (if mx then .max else .min)) (hargs : c.args.toList = [x, y])
    (hx : okOpd ν x x' = true) (hy : okOpd ν y y' = true) {z} (hz : (SOp.mm mx x' y').ev e H = some z) : Calm P ν K μ e a w o z := by
  have ha := arr2 hargs
  simp only [SOp.ev] at hz
  split at hz
  · rename_i k m k' n h1 h2
    have e1 := hv_sound hst hx h1
    have e2 := hv_sound hst hy h2
    simp only [rep] at e1 e2
    split at hz
    · simp only [Option.some.injEq] at hz; subst hz
      cases mx
      · refine ⟨.int k (if n < m then n else m), ?_, by simp [repE, rep], trivial⟩
        simp [execOp, ho, resolve, hc, ha, invoke, builtin, e1, e2, Builtin.min_, Builtin.min2]
      · refine ⟨.int k (if m < n then n else m), ?_, by simp [repE, rep], trivial⟩
        simp [execOp, ho, resolve, hc, ha, invoke, builtin, e1, e2, Builtin.max_, Builtin.max2]
    · cases hz
  · cases hz

theorem ev_mkfn (hst : St ν w0 K0 H0 N e H a w K μ) {f first caps g ys} (ho : o.op = .makeFunc (.func f) first caps) (hfi : first.isEmpty = true) (hg : ν f = some g) (hys : okOpds ν caps.toList ys = true)
    {z} (hz : (SOp.mkfn g ys).ev e H = some z) : Calm P ν K μ e a w o z := by
  have hf : first = #[] := by simpa using hfi
  simp only [SOp.ev] at hz
  cases hh : e.hvs ys with
  | none => simp [hh] at hz
  | some hs =>
    simp only [hh, Option.map_some, Option.some.injEq] at hz; subst hz
    have h1 := hvs_sound hst hys hh
    refine ⟨.func (.func f) #[] (caps.map a.eval), ?_, ?_, trivial⟩
    · simp [execOp, ho, Instr.makeFunc, hf]
    · simp only [repE, rep]
      exact ⟨f, caps.toList.map a.eval, hg, by rw [← Array.toList_map, Array.toArray_toList], h1⟩

theorem ev_ext (hst : St ν w0 K0 H0 N e H a w K μ) {x i x'} (ho : o.op = .extract x i) (hx : okOpd ν x x' = true)
    {z} (hz : (SOp.ext x' i).ev e H = some z) : Calm P ν K μ e a w o z := by
  simp only [SOp.ev] at hz
  split at hz
  · rename_i vs h1
    have e1 := hv_sound hst hx h1
    simp only [rep] at e1
    obtain ⟨us, g1, g2⟩ := e1
    cases hi : vs[i]? with
    | none => simp [hi] at hz
    | some h' =>
      simp only [hi, Option.map_some, Option.some.injEq] at hz; subst hz
      obtain ⟨u, u1, u2⟩ := repL_get g2 hi
      refine ⟨u, ?_, u2, trivial⟩
      simp [execOp, ho, g1, Instr.extract, u1]
  · cases hz

theorem bnd_sound (hst : St ν w0 K0 H0 N e H a w K μ) {d : Nat} {lo : Option Operand} {lo' : Option Opd} (hk : okOpd? ν lo lo' = true) {l : Int} (hl : bnd e d lo' = some l) :
    match lo.map a.eval with
    | some (.int _ n) => n = l
    | none => l = d
    | _ => False := by
  cases lo <;> cases lo' <;> simp only [okOpd?, Bool.false_eq_true] at hk
  · simpa [bnd] using hl.symm
  · simp only [bnd] at hl
    split at hl
    · rename_i k n h1
      have e1 := hv_sound hst hk h1
      simp only [rep] at e1
      simp only [Option.some.injEq] at hl; subst hl
      simp [e1]
    · cases hl

theorem run_bounds2 {lo hi : Option Value} {isS : Bool} {len cap : Nat} {l h : Int} (hl : match lo with | some (.int _ n) => n = l | none => l = 0 | _ => False)
    (hh : match hi with | some (.int _ n) => n = h | none => h = len | _ => False) (h0 : 0 ≤ l) (h1 : l ≤ h) (h2 : h ≤ len) (h3 : len ≤ cap) :
    (Instr.sliceBounds isS len cap lo hi none).run P w = .ok (l.toNat, h.toNat, cap) w := by
  have hb : ∀ (k : IntKind) (n : Int) (y : Nat) (code : BoundsCode), 0 ≤ n → n ≤ y → (Instr.sliceBound (.int k n) y code).run P w = .ok n.toNat w := fun k n y c a b => run_boundsOk k n y c a b
  unfold Instr.sliceBounds
  rcases lo with _ | lo <;> rcases hi with _ | hi
  · simp only at hl hh; subst hl; subst hh; simp
  · cases hi <;> simp only at hh
    simp only at hl; subst hl; subst hh
    rename_i k n
    have hb1 := fun c => hb k n cap c h1 (by omega)
    simp [hb1]
  · cases lo <;> simp only at hl
    simp only at hh; subst hl; subst hh
    rename_i k n
    have hb1 := fun c => hb k n len c h0 h1
    simp [hb1]
  · cases lo <;> simp only at hl
    cases hi <;> simp only at hh
    subst hl; subst hh
    rename_i k n k' n'
    have hb1 := fun c => hb k' n' cap c (by omega) (by omega)
    have hb2 := fun c => hb k n n'.toNat c h0 (by omega)
    simp [hb1, hb2]

theorem ev_ssl (hst : St ν w0 K0 H0 N e H a w K μ) {T x lo hi x' lo' hi'} (ho : o.op = .slice T x lo hi none) (hT : isStr P T = true) (hx : okOpd ν x x' = true) (hlo : okOpd? ν lo lo' = true) (hhi : okOpd? ν hi hi' = true)
    {z} (hz : (SOp.ssl x' lo' hi').ev e H = some z) : Calm P ν K μ e a w o z := by
  have hu := isStr_under hT
  simp only [SOp.ev] at hz
  split at hz
  · rename_i s h1
    have e1 := hv_sound hst hx h1
    simp only [rep] at e1
    split at hz
    · rename_i l h hl hh
      have b1 := bnd_sound hst hlo hl
      have b2 := bnd_sound hst hhi hh
      split at hz
      · rename_i hc
        simp only [Option.some.injEq] at hz; subst hz
        refine ⟨.string (s.extract l.toNat h.toNat), ?_, by simp [repE, rep], trivial⟩
        have := run_bounds2 (P := P) (w := w) (isS := false) (cap := s.size) b1 b2 hc.1 hc.2.1 hc.2.2 (Nat.le_refl _)
        simp [execOp, ho, e1, Instr.sliceAt, Instr.slice, run_underlying hu, this]
      · cases hz
    · cases hz
  · cases hz

end
end Sm
