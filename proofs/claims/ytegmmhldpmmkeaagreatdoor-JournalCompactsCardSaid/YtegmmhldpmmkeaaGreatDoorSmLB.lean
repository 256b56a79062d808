/-
  F,G
-/
import Derived.Test.YtegmmhldpmmkeaaGreatDoorSmLA
import Derived.WalkLawsBesides
set_option linter.unusedVariables false
set_option linter.unusedSimpArgs false
set_option linter.unnecessarySimpa false
namespace Sm
open Go
theorem run_boundsOk {P : Program} {w : World} (k : IntKind) (n : Int) (y : Nat) (code : BoundsCode) (h0 : 0 ≤ n) (h1 : n ≤ y) :
   (Instr.sliceBound (.int k n) y code).run P w = .ok n.toNat w := by
 simp [Instr.sliceBound, asIntOf, h0, h1]
section
variable {P : Program} {D : List (Nat × List HV)} {ν : Nat → Option Nat} {w0 : World} {K0 : Nat → Nat} {H0 : Heap} {N : Nat} {e : Env} {H : Heap} {a : Act} {w : World} {K μ : Nat → Nat} {o : Oper}
def Calm (P : Program) (ν : Nat → Option Nat) (K : Nat → Nat) (μ : Nat → Nat) (e : Env) (a : Act) (w : World) (o : Oper) (x : EV) : Prop :=
 ∃ u, (execOp a.eval o).run P w = .ok (.value u) w ∧ repE ν K w μ x u ∧ x.live e
theorem ev_mv (hst : St D ν w0 K0 H0 N e H a w K μ) {x y} (ho : o.op = .move x ∨ o.op = .assign x) (hk : okOpd ν x y = true) {z} (hz : e.opd y = some z) : Calm P ν K μ e a w o z := by
 obtain ⟨h1, h2⟩ := opd_sound hst hk hz
 rcases ho with ho | ho <;> exact ⟨a.eval x, by simp [execOp, ho], h1, h2⟩
theorem ev_pick (hst : St D ν w0 K0 H0 N e H a w K μ) {c x y c' x' y'} (ho : o.op = .pick c x y) (hc : okOpd ν c c' = true) (hx : okOpd ν x x' = true) (hy : okOpd ν y y' = true)
   {z} (hz : (SOp.pick c' x' y').ev e H = some z) : Calm P ν K μ e a w o z := by
 simp only [SOp.ev] at hz
 split at hz
 · rename_i t ht
   have h1 := hv_sound hst hc ht
   simp only [rep] at h1
   cases t
   · obtain ⟨h2, h3⟩ := opd_sound hst hy (by simpa using hz)
     exact ⟨a.eval y, by simp [execOp, ho, h1, asBool], h2, h3⟩
   · obtain ⟨h2, h3⟩ := opd_sound hst hx (by simpa using hz)
     exact ⟨a.eval x, by simp [execOp, ho, h1, asBool], h2, h3⟩
 · cases hz
theorem binOp_int {op : BinOp} {t : TypeId} {k k' : IntKind} {m n : Int} {r : HV} (h : intOp op k m k' n = some r) :
   ∃ u, (binOp op t (.int k m) (.int k' n)).run P w = .ok u w ∧ r = .v u := by
 cases op <;> simp only [intOp] at h <;> split at h <;> first | (cases h; done) | skip
 all_goals
   rename_i hc
   simp only [Option.some.injEq] at h
   subst h
   refine ⟨_, ?_, rfl⟩
 all_goals first
   | (subst hc; simp [binOp, Op.intArith, Op.intCmp, Op.intBits]; done)
   | (obtain ⟨rfl, h0⟩ := hc; simp [binOp, Op.intDiv, h0]; done)
   | (have h0 : ¬ n < 0 := by omega
      simp [binOp, Op.shift, h0]; done)
theorem ev_int (hst : St D ν w0 K0 H0 N e H a w K μ) {op t x y yt x' y'} (ho : o.op = .binOp op t x y yt) (hx : okOpd ν x x' = true) (hy : okOpd ν y y' = true)
   {z} (hz : (SOp.int op x' y').ev e H = some z) : Calm P ν K μ e a w o z := by
 simp only [SOp.ev] at hz
 split at hz
 · rename_i k m k' n h1 h2
   have e1 := hv_sound hst hx h1
   have e2 := hv_sound hst hy h2
   simp only [rep] at e1 e2
   cases hi : intOp op k m k' n with
   | none => simp [hi] at hz
   | some r =>
     simp only [hi, Option.map_some, Option.some.injEq] at hz; subst hz
     obtain ⟨u, hu, rfl⟩ := binOp_int (P := P) (w := w) (t := t) hi
     refine ⟨u, ?_, by simp [repE, rep], trivial⟩
     simp [execOp, ho, e1, e2, eqGuard_at_int, hu]
 · cases hz
theorem ev_str (hst : St D ν w0 K0 H0 N e H a w K μ) {op t x y yt x' y'} (ho : o.op = .binOp op t x y yt) (hx : okOpd ν x x' = true) (hy : okOpd ν y y' = true)
   {z} (hz : (SOp.str op x' y').ev e H = some z) : Calm P ν K μ e a w o z := by
 simp only [SOp.ev] at hz
 split at hz
 · rename_i m n h1 h2
   have e1 := hv_sound hst hx h1
   have e2 := hv_sound hst hy h2
   simp only [rep] at e1 e2
   cases hi : strOp op m n with
   | none => simp [hi] at hz
   | some r =>
     simp only [hi, Option.map_some, Option.some.injEq] at hz; subst hz
     have key : ∃ u, (binOp op t (.string m) (.string n)).run P w = .ok u w ∧ r = .v u := by
       cases op <;> simp only [strOp] at hi <;> first
         | (cases hi; done)
         | (split at hi
            · rename_i hle
              simp only [Option.some.injEq] at hi; subst hi
              have hle' : ¬ ((m.size + n.size : Nat) : Int) > IntKind.i64.max := by simp only [IntKind.max_i64]; omega
              refine ⟨_, ?_, rfl⟩
              simp only [binOp, Op.stringOp, if_neg hle', Sem.run_pure]
            · cases hi)
         | (simp only [Option.some.injEq] at hi; subst hi; exact ⟨_, by simp only [binOp, Op.stringOp, Sem.run_pure], rfl⟩)
     obtain ⟨u, hu, rfl⟩ := key
     refine ⟨u, ?_, by simp [repE, rep], trivial⟩
     simp [execOp, ho, e1, e2, eqGuard_at_string, hu]
 · cases hz
theorem ev_not (hst : St D ν w0 K0 H0 N e H a w K μ) {t x x'} (ho : o.op = .unOp .not t x) (hx : okOpd ν x x' = true)
   {z} (hz : (SOp.not x').ev e H = some z) : Calm P ν K μ e a w o z := by
 simp only [SOp.ev] at hz
 split at hz
 · rename_i b h1
   have e1 := hv_sound hst hx h1
   simp only [rep] at e1
   simp only [Option.some.injEq] at hz; subst hz
   exact ⟨.bool !b, by simp [execOp, ho, e1, Op.unary], by simp [repE, rep], trivial⟩
 · cases hz
theorem ev_neg (hst : St D ν w0 K0 H0 N e H a w K μ) {t x x'} (ho : o.op = .unOp .neg t x) (hx : okOpd ν x x' = true)
   {z} (hz : (SOp.neg x').ev e H = some z) : Calm P ν K μ e a w o z := by
 simp only [SOp.ev] at hz
 split at hz
 · rename_i k n h1
   have e1 := hv_sound hst hx h1
   simp only [rep] at e1
   simp only [Option.some.injEq] at hz; subst hz
   exact ⟨_, by simp [execOp, ho, e1, Op.unary, Op.intArith]; rfl, by simp [repE, rep], trivial⟩
 · cases hz
theorem ev_com (hst : St D ν w0 K0 H0 N e H a w K μ) {t x x'} (ho : o.op = .unOp .xor t x) (hx : okOpd ν x x' = true)
   {z} (hz : (SOp.com x').ev e H = some z) : Calm P ν K μ e a w o z := by
 simp only [SOp.ev] at hz
 split at hz
 · rename_i k n h1
   have e1 := hv_sound hst hx h1
   simp only [rep] at e1
   simp only [intOp, if_true, Option.map_some, Option.some.injEq] at hz; subst hz
   exact ⟨_, by simp [execOp, ho, e1, Op.unary, Op.intBits]; rfl, by simp [repE, rep], trivial⟩
 · cases hz
theorem ev_conv (hst : St D ν w0 K0 H0 N e H a w K μ) {src dst k x x'} (ho : o.op = .convert src dst x) (hs : (P.underlying src).isSome = true) (hd : intOf' P dst = some k) (hx : okOpd ν x x' = true)
   {z} (hz : (SOp.conv k x').ev e H = some z) : Calm P ν K μ e a w o z := by
 simp only [SOp.ev] at hz
 split at hz
 · rename_i k' n h1
   have e1 := hv_sound hst hx h1
   simp only [rep] at e1
   simp only [Option.some.injEq] at hz; subst hz
   obtain ⟨d, hd'⟩ := Option.isSome_iff_exists.1 hs
   refine ⟨.int k (k.wrap n), ?_, by simp [repE, rep], trivial⟩
   simp [execOp, ho, e1, convert, run_underlying hd', run_underlying (intOf_under hd), Conv.intToInt]
 · cases hz
theorem ev_idc (hst : St D ν w0 K0 H0 N e H a w K μ) {src dst x x'} (ho : o.op = .convert src dst x) (hs : (P.underlying src).isSome = true) (hd : isStr P dst = true) (hx : okOpd ν x x' = true)
   {z} (hz : (SOp.idc x').ev e H = some z) : Calm P ν K μ e a w o z := by
 simp only [SOp.ev] at hz
 split at hz
 · rename_i s h1
   have e1 := hv_sound hst hx h1
   simp only [rep] at e1
   simp only [Option.some.injEq] at hz; subst hz
   obtain ⟨d, hd'⟩ := Option.isSome_iff_exists.1 hs
   refine ⟨.string s, ?_, by simp [repE, rep], trivial⟩
   simp [execOp, ho, e1, convert, run_underlying hd', run_underlying (isStr_under hd)]
 · cases hz
theorem ev_load (hst : St D ν w0 K0 H0 N e H a w K μ) {T x agg n x'} (ho : o.op = .load T x) (hn : szOf P T = some n) (ha : aggOf P T = some agg) (h1 : (agg || decide (n = 1)) = true) (hx : okOpd ν x x' = true)
   {z} (hz : (SOp.load agg n x').ev e H = some z) : Calm P ν K μ e a w o z := by
 simp only [SOp.ev] at hz
 have fin : ∀ {b o' off cs us z'}, repL ν K w cs us → cs.all HV.one = true → cellsAt w b o' us → loadv agg n off cs = some z' → a.eval x = .pointer (some ⟨b, o' + off, none⟩) → z = .h z' → Calm P ν K μ e a w o z := by
   intro b o' off cs us z' hr hone hc hl hev hz'
   obtain ⟨u, hu1, hu2⟩ := loadv_sound hn ha h1 hr hone hc hl
   subst hz'
   exact ⟨u, by simp [execOp, ho, hev, hu1], hu2, trivial⟩
 split at hz
 · rename_i b off hop
   have e1 := (opd_sound hst hx hop).1
   simp only [repE, rep] at e1
   split at hz
   · rename_i cs hH
     obtain ⟨us, T', g1, g2, g3, g4⟩ := hst.hs.res b _ hH
     cases hl : loadv agg n off cs with
     | none => simp [hl] at hz
     | some z' =>
       simp only [hl, Option.map_some, Option.some.injEq] at hz
       exact fin g3 g4 (cellsAt_take (cellsAt_block g1) _) hl (by simpa using e1) hz.symm
   · cases hz
 · rename_i cs hop
   have e1 := (opd_sound hst hx hop).1
   simp only [repE, rep] at e1
   obtain ⟨b, off, us, g1, g2, g3, g4, g5⟩ := e1
   cases hl : loadv agg n 0 cs with
   | none => simp [hl] at hz
   | some z' =>
     simp only [hl, Option.map_some, Option.some.injEq] at hz
     exact fin g3 g2 g5 hl (by simpa using g1) hz.symm
 · rename_i k off hop
   have e1 := (opd_sound hst hx hop).1
   simp only [repE] at e1
   split at hz
   · rename_i cs hb
     obtain ⟨_, _, us, T', g1, g2, g3, g4⟩ := hst.box k cs hb
     cases hl : loadv agg n off cs with
     | none => simp [hl] at hz
     | some z' =>
       simp only [hl, Option.map_some, Option.some.injEq] at hz
       exact fin g3 g4 (cellsAt_block g1) hl (by simpa using e1) hz.symm
   · cases hz
 · cases hz
theorem ev_nilc (hst : St D ν w0 K0 H0 N e H a w K μ) {x x'} (ho : o.op = .nilCheck x) (hx : okOpd ν x x' = true)
   {z} (hz : (SOp.nilc x').ev e H = some z) : Calm P ν K μ e a w o z := by
 simp only [SOp.ev] at hz
 split at hz
 · rename_i ad hop
   have e1 := (opd_sound hst hx hop).1
   simp only [repE, rep] at e1
   simp only [Option.some.injEq] at hz; subst hz
   exact ⟨_, by simp [execOp, ho, e1]; rfl, by simp [repE, rep], trivial⟩
 · rename_i cs hop
   have e1 := (opd_sound hst hx hop).1
   have e2 := e1
   simp only [repE, rep] at e1
   obtain ⟨b, off, us, g1, g2, g3, g4, g5⟩ := e1
   simp only [Option.some.injEq] at hz; subst hz
   exact ⟨a.eval x, by simp [execOp, ho, g1], e2, trivial⟩
 · rename_i k off hop
   have e1 := opd_sound hst hx hop
   simp only [Option.some.injEq] at hz; subst hz
   have e2 := e1.1
   simp only [repE] at e2
   exact ⟨a.eval x, by simp [execOp, ho, e2], e1.1, e1.2⟩
 · rename_i g caps hop
   have e1 := opd_sound hst hx hop
   simp only [Option.some.injEq] at hz; subst hz
   have e2 := e1.1
   simp only [repE, rep] at e2
   obtain ⟨n, us, g1, g2, g3⟩ := e2
   exact ⟨a.eval x, by simp [execOp, ho, g2], e1.1, trivial⟩
 · rename_i g r hop
   have e1 := opd_sound hst hx hop
   simp only [Option.some.injEq] at hz; subst hz
   have e2 := e1.1
   simp only [repE, rep] at e2
   obtain ⟨n, u', g1, g2, g3⟩ := e2
   exact ⟨a.eval x, by simp [execOp, ho, g2], e1.1, trivial⟩
 · cases hz
theorem fieldPlace_ok {P : Program} {w : World} {fd : Field} {n : Nat} (hn : szOf P fd.type = some (n + 1)) (ad : Addr) : (fieldPlace ad fd).run P w = .ok (ad.add fd.offset) w := by
 simp [fieldPlace, run_sizeOf hn]
theorem ev_fld (hst : St D ν w0 K0 H0 N e H a w K μ) {T x f off n fd x'} (ho : o.op = .fieldAddr T x f) (hf : fieldOf P T f = some fd) (hoff : fd.offset = off) (hn : szOf P fd.type = some (n + 1)) (hx : okOpd ν x x' = true)
   {z} (hz : (SOp.fld off x').ev e H = some z) : Calm P ν K μ e a w o z := by
 obtain ⟨fs, hu, hfs⟩ := fieldOf_under hf
 have run : ∀ ad : Addr, a.eval x = .pointer (some ad) → (execOp a.eval o).run P w = .ok (.value (.pointer (some (ad.add off)))) w := by
   intro ad had
   simp [execOp, ho, had, Instr.fieldAt, run_underlying hu, hfs, Instr.sureAddr, fieldPlace_ok hn, hoff]
 simp only [SOp.ev] at hz
 split at hz
 · rename_i b o' hop
   have e1 := (opd_sound hst hx hop).1
   simp only [repE, rep] at e1
   simp only [Option.some.injEq] at hz; subst hz
   exact ⟨_, run _ e1, by simp [repE, rep, addr_add], trivial⟩
 · rename_i cs hop
   have e1 := (opd_sound hst hx hop).1
   simp only [repE, rep] at e1
   obtain ⟨b, o', us, g1, g2, g3, g4, g5⟩ := e1
   split at hz
   · rename_i hle
     simp only [Option.some.injEq] at hz; subst hz
     have hlen := repL_length g3
     refine ⟨_, run _ g1, ?_, trivial⟩
     simp only [repE, rep, addr_add]
     refine ⟨b, o' + off, us.drop off, rfl, ?_, repL_drop off g3, by rw [List.length_drop]; omega, cellsAt_drop g5 off⟩
     rw [List.all_eq_true] at g2 ⊢
     exact fun y hy => g2 y (List.mem_of_mem_drop hy)
   · cases hz
 · rename_i k o' hop
   have e1 := opd_sound hst hx hop
   have e2 := e1.1
   simp only [repE] at e2
   simp only [Option.some.injEq] at hz; subst hz
   exact ⟨_, run _ e2, by simp [repE, addr_add], e1.2⟩
 · cases hz
theorem run_part {T : TypeId} {n : Nat} {agg : Bool} (hn : szOf P T = some n) (ha : aggOf P T = some agg) (h1 : (agg || decide (n = 1)) = true) {off : Nat} {cs : List HV} {us : List Value} (hr : repL ν K w cs us) (hone : cs.all HV.one = true)
   {x : HV} (hx : loadv agg n off cs = some x) : ∃ u, (part T us.toArray off).run P w = .ok u w ∧ rep ν K w x u := by
 unfold loadv at hx
 split at hx
 case isFalse => cases hx
 case isTrue hle =>
   have hlen := repL_length hr
   have hr' := repL_take n (repL_drop off hr)
   unfold mkv at hx
   cases agg with
   | true =>
     simp only [if_true, Option.some.injEq] at hx; subst hx
     refine ⟨.agg (us.toArray.extract off (off + n)), ?_, ⟨_, ?_, ?_, hr'⟩⟩
     · simp [part, run_isAgg ha, run_sizeOf hn]
     · simp [List.take_drop]
     · rw [List.all_eq_true] at hone ⊢
       exact fun z hz => hone z (List.mem_of_mem_drop (List.mem_of_mem_take hz))
   | false =>
     simp at h1; subst h1
     simp only [Bool.false_eq_true, if_false] at hx
     split at hx
     · rename_i g hg
       simp only [Option.some.injEq] at hx; subst hx
       rw [hg] at hr'
       obtain ⟨v, vs, h3, h4, h5⟩ := hr'
       have h6 : us[off]? = some v := by
         have h7 : ((us.drop off).take 1)[0]? = some v := by rw [h3]; rfl
         simpa [List.getElem?_take, List.getElem?_drop] using h7
       refine ⟨v, ?_, h4⟩
       simp [part, run_isAgg ha, h6]
     · cases hx
theorem ev_field (hst : St D ν w0 K0 H0 N e H a w K μ) {T x f off n agg fd x'} (ho : o.op = .field T x f) (hf : fieldOf P T f = some fd) (hoff : fd.offset = off) (hn : szOf P fd.type = some n) (ha : aggOf P fd.type = some agg)
   (h1 : (agg || decide (n = 1)) = true) (hx : okOpd ν x x' = true) {z} (hz : (SOp.field agg off n x').ev e H = some z) : Calm P ν K μ e a w o z := by
 obtain ⟨fs, hu, hfs⟩ := fieldOf_under hf
 simp only [SOp.ev] at hz
 split at hz
 · rename_i cs hop
   have e1 := hv_sound hst hx hop
   simp only [rep] at e1
   obtain ⟨us, g1, g2, g3⟩ := e1
   cases hl : loadv agg n off cs with
   | none => simp [hl] at hz
   | some z' =>
     simp only [hl, Option.map_some, Option.some.injEq] at hz; subst hz
     obtain ⟨u, hu1, hu2⟩ := run_part (P := P) hn ha h1 g3 g2 hl
     refine ⟨u, ?_, hu2, trivial⟩
     subst hoff
     simp [execOp, ho, g1, Instr.field, run_underlying hu, hfs, asAgg, hu1]
 · cases hz
theorem ev_idx (hst : St D ν w0 K0 H0 N e H a w K μ) {T x i sz el x' i'} (ho : o.op = .indexAddr T x i) (hT : Sm.elemOf P T = some el) (hsz : szOf P el = some sz) (hx : okOpd ν x x' = true) (hi : okOpd ν i i' = true)
   {z} (hz : (SOp.idx sz x' i').ev e H = some z) : Calm P ν K μ e a w o z := by
 have hu := elemOf_under hT
 have run : ∀ (b off len cap : Nat) (k : IntKind) (n : Int), a.eval x = .slice (some ⟨b, off, none⟩) len cap → a.eval i = .int k n → 0 ≤ n → n < len →
     (execOp a.eval o).run P w = .ok (.value (.pointer (some ⟨b, off + n.toNat * sz, none⟩))) w := by
   intro b off len cap k n h1 h2 h3 h4
   simp [execOp, ho, h1, h2, Instr.indexAt, asIntOf, run_underlying hu, h3, h4, run_sizeOf hsz, addr_add]
 simp only [SOp.ev] at hz
 split at hz
 · rename_i tk sz' es k n h1 h2
   have e1 := hv_sound hst hx h1
   have e2 := hv_sound hst hi h2
   simp only [rep] at e1 e2
   obtain ⟨A, cap, vals, g1, g2, g3, g4, g5, g6, g7, g8⟩ := e1
   split at hz
   · rename_i hc
     obtain ⟨rfl, hn0⟩ := hc
     cases hh : es[n.toNat]? with
     | none => simp [hh] at hz
     | some h' =>
       simp only [hh, Option.map_some, Option.some.injEq] at hz; subst hz
       have hlt : n.toNat < es.length := (List.getElem?_eq_some_iff.1 hh).1
       rcases g8 with g8 | ⟨b, off, hA, hK, hcell⟩
       · subst g8; simp at hlt
       · subst hA
         obtain ⟨u, u1, u2, u3, u4⟩ := flat_get g7 g5 g6 hh
         obtain ⟨c1, c2⟩ := rep_cells u2 u1
         have hsz' := rep_cells_size u2 u1
         have hnc := g6 h' (List.mem_of_getElem? hh)
         refine ⟨_, run b off es.length cap k n g1 e2 hn0 (by omega), ?_, trivial⟩
         simp only [repE, rep]
         refine ⟨b, off + n.toNat * sz', u.cells.toList, rfl, c2, c1, ?_, ?_⟩
         · rw [Array.length_toList, hsz', hnc]
           have : (n.toNat + 1) * sz' ≤ es.length * sz' := Nat.mul_le_mul_right _ hlt
           rw [Nat.add_mul] at this; omega
         · intro j y hy
           have := hcell _ _ (u4 j y hy)
           rwa [Nat.add_assoc]
   · cases hz
 · rename_i b off l c k n h1 h2
   have e1 := hv_sound hst hx h1
   have e2 := hv_sound hst hi h2
   simp only [rep] at e1 e2
   split at hz
   · rename_i hc
     simp only [Option.some.injEq] at hz; subst hz
     exact ⟨_, run b off l c k n e1 e2 hc.1 hc.2, by simp [repE, rep], trivial⟩
   · cases hz
 · cases hz
theorem ev_aidx (hst : St D ν w0 K0 H0 N e H a w K μ) {T x i l sz el x' i'} (ho : o.op = .indexAddr T x i) (hT : Sm.arrOf P T = some (l, el)) (hsz : szOf P el = some sz) (hx : okOpd ν x x' = true) (hi : okOpd ν i i' = true)
   {z} (hz : (SOp.aidx l sz x' i').ev e H = some z) : Calm P ν K μ e a w o z := by
 have hu := arrOf_under hT
 have run : ∀ (b off : Nat) (k : IntKind) (n : Int), a.eval x = .pointer (some ⟨b, off, none⟩) → a.eval i = .int k n → 0 ≤ n → n < l →
     (execOp a.eval o).run P w = .ok (.value (.pointer (some ⟨b, off + n.toNat * sz, none⟩))) w := by
   intro b off k n h1 h2 h3 h4
   simp [execOp, ho, h1, h2, Instr.indexAt, asIntOf, run_underlying hu, Instr.sureAddr, h3, h4, run_sizeOf hsz, addr_add]
 simp only [SOp.ev] at hz
 split at hz
 · rename_i b off k n h1 h2
   have e1 := (opd_sound hst hx h1).1
   have e2 := hv_sound hst hi h2
   simp only [repE, rep] at e1 e2
   split at hz
   · rename_i hc
     simp only [Option.some.injEq] at hz; subst hz
     exact ⟨_, run b off k n e1 e2 hc.1 hc.2, by simp [repE, rep], trivial⟩
   · cases hz
 · rename_i k' off k n h1 h2
   have e1 := opd_sound hst hx h1
   have e2 := hv_sound hst hi h2
   have e3 := e1.1
   simp only [repE, rep] at e3 e2
   split at hz
   · rename_i hc
     simp only [Option.some.injEq] at hz; subst hz
     exact ⟨_, run _ off k n e3 e2 hc.1 hc.2, by simp [repE], e1.2⟩
   · cases hz
 · rename_i cs k n h1 h2
   have e1 := (opd_sound hst hx h1).1
   have e2 := hv_sound hst hi h2
   simp only [repE, rep] at e1 e2
   obtain ⟨b, off, us, g1, g2, g3, g4, g5⟩ := e1
   split at hz
   · rename_i hc
     simp only [Option.some.injEq] at hz; subst hz
     have hlen := repL_length g3
     refine ⟨_, run b off k n g1 e2 hc.1 hc.2.1, ?_, trivial⟩
     simp only [repE, rep]
     refine ⟨b, _, us.drop (n.toNat * sz), rfl, ?_, repL_drop _ g3, by rw [List.length_drop]; omega, cellsAt_drop g5 _⟩
     rw [List.all_eq_true] at g2 ⊢
     exact fun y hy => g2 y (List.mem_of_mem_drop hy)
   · cases hz
 · cases hz
end
end Sm
namespace Sm
open Go
theorem arr1 {α : Type} {c : Array α} {x : α} (h : c.toList = [x]) : c = #[x] := Array.toList_inj.1 (by simpa using h)
theorem arr2 {α : Type} {c : Array α} {x y : α} (h : c.toList = [x, y]) : c = #[x, y] := Array.toList_inj.1 (by simpa using h)
section
variable {P : Program} {D : List (Nat × List HV)} {ν : Nat → Option Nat} {w0 : World} {K0 : Nat → Nat} {H0 : Heap} {N : Nat} {e : Env} {H : Heap} {a : Act} {w : World} {K μ : Nat → Nat} {o : Oper}
theorem ev_sidx (hst : St D ν w0 K0 H0 N e H a w K μ) {T x i x' i'} (ho : o.op = .index T x i) (hT : isStr P T = true) (hx : okOpd ν x x' = true) (hi : okOpd ν i i' = true)
   {z} (hz : (SOp.sidx x' i').ev e H = some z) : Calm P ν K μ e a w o z := by
 have hu := isStr_under hT
 simp only [SOp.ev] at hz
 split at hz
 · rename_i s k n h1 h2
   have e1 := hv_sound hst hx h1
   have e2 := hv_sound hst hi h2
   simp only [rep] at e1 e2
   split at hz
   · rename_i hc
     simp only [Option.some.injEq] at hz; subst hz
     refine ⟨.int .u8 (s[n.toNat]'hc.2).toNat, ?_, by simp only [repE, rep], trivial⟩
     simp [execOp, ho, e1, e2, Instr.index, asIntOf, run_underlying hu, hc.1, hc.2]
   · cases hz
 · cases hz
theorem ev_len (hst : St D ν w0 K0 H0 N e H a w K μ) {c x t x'} (ho : o.op = .call c) (hc : c.callee = .builtin .len) (hargs : c.args.toList = [x]) (hts : c.argTypes.toList = [t])
   (hT : (Sm.elemOf P t).isSome = true) (hx : okOpd ν x x' = true) {z} (hz : (SOp.len x').ev e H = some z) : Calm P ν K μ e a w o z := by
 have ha := arr1 hargs
 have ht := arr1 hts
 obtain ⟨el, hel⟩ := Option.isSome_iff_exists.1 hT
 have hu := elemOf_under hel
 have base : ∀ A n cap, a.eval x = .slice A n cap → (execOp a.eval o).run P w = .ok (.value (.int .i64 n)) w := by
   intro A n cap hs
   simp [execOp, ho, resolve, hc, ha, ht, invoke, builtin, hs, Builtin.len_, run_underlying hu, goInt]
 simp only [SOp.ev] at hz
 split at hz
 · rename_i tk sz es h1
   have e1 := hv_sound hst hx h1
   simp only [rep] at e1
   obtain ⟨A, cap, vals, g1, _⟩ := e1
   simp only [Option.some.injEq] at hz; subst hz
   exact ⟨_, base _ _ _ g1, by simp [repE, rep], trivial⟩
 · rename_i A n cap h1
   have e1 := hv_sound hst hx h1
   simp only [rep] at e1
   simp only [Option.some.injEq] at hz; subst hz
   exact ⟨_, base _ _ _ e1, by simp [repE, rep], trivial⟩
 · cases hz
theorem ev_slen (hst : St D ν w0 K0 H0 N e H a w K μ) {c x t x'} (ho : o.op = .call c) (hc : c.callee = .builtin .len) (hargs : c.args.toList = [x]) (hts : c.argTypes.toList = [t])
   (hT : isStr P t = true) (hx : okOpd ν x x' = true) {z} (hz : (SOp.slen x').ev e H = some z) : Calm P ν K μ e a w o z := by
 have ha := arr1 hargs
 have ht := arr1 hts
 have hu := isStr_under hT
 simp only [SOp.ev] at hz
 split at hz
 · rename_i s h1
   have e1 := hv_sound hst hx h1
   simp only [rep] at e1
   simp only [Option.some.injEq] at hz; subst hz
   refine ⟨.int .i64 s.size, ?_, by simp [repE, rep], trivial⟩
   simp [execOp, ho, resolve, hc, ha, ht, invoke, builtin, e1, Builtin.len_, run_underlying hu, goInt]
 · cases hz
theorem ev_mm (hst : St D ν w0 K0 H0 N e H a w K μ) {c x y x' y'} {mx : Bool} (ho : o.op = .call c) (hc : c.callee = .builtin (if mx then .max else .min)) (hargs : c.args.toList = [x, y])
   (hx : okOpd ν x x' = true) (hy : okOpd ν y y' = true) {z} (hz : (SOp.mm mx x' y').ev e H = some z) : Calm P ν K μ e a w o z := by
 have ha := arr2 hargs
 simp only [SOp.ev] at hz
 split at hz
 · rename_i k m k' n h1 h2
   have e1 := hv_sound hst hx h1
   have e2 := hv_sound hst hy h2
   simp only [rep] at e1 e2
   split at hz
   · simp only [Option.some.injEq] at hz; subst hz
     cases mx
     · refine ⟨.int k (if n < m then n else m), ?_, by simp [repE, rep], trivial⟩
       simp [execOp, ho, resolve, hc, ha, invoke, builtin, e1, e2, Builtin.min_, Builtin.min2]
     · refine ⟨.int k (if m < n then n else m), ?_, by simp [repE, rep], trivial⟩
       simp [execOp, ho, resolve, hc, ha, invoke, builtin, e1, e2, Builtin.max_, Builtin.max2]
   · cases hz
 · cases hz
theorem ev_mkfn (hst : St D ν w0 K0 H0 N e H a w K μ) {f first caps g ys} (ho : o.op = .makeFunc (.func f) first caps) (hfi : first.isEmpty = true) (hg : fnat ν f g) (hys : okOpds ν caps.toList ys = true)
   {z} (hz : (SOp.mkfn g ys).ev e H = some z) : Calm P ν K μ e a w o z := by
 have hf : first = #[] := by simpa using hfi
 simp only [SOp.ev] at hz
 cases hh : e.hvs ys with
 | none => simp [hh] at hz
 | some hs =>
   simp only [hh, Option.map_some, Option.some.injEq] at hz; subst hz
   have h1 := hvs_sound hst hys hh
   refine ⟨.func (.func f) #[] (caps.map a.eval), ?_, ?_, trivial⟩
   · simp [execOp, ho, Instr.makeFunc, hf]
   · simp only [repE, rep]
     exact ⟨f, caps.toList.map a.eval, hg, by rw [← Array.toList_map, Array.toArray_toList], h1⟩
theorem ev_ext (hst : St D ν w0 K0 H0 N e H a w K μ) {x i x'} (ho : o.op = .extract x i) (hx : okOpd ν x x' = true)
   {z} (hz : (SOp.ext x' i).ev e H = some z) : Calm P ν K μ e a w o z := by
 simp only [SOp.ev] at hz
 split at hz
 · rename_i vs h1
   have e1 := hv_sound hst hx h1
   simp only [rep] at e1
   obtain ⟨us, g1, g2⟩ := e1
   cases hi : vs[i]? with
   | none => simp [hi] at hz
   | some h' =>
     simp only [hi, Option.map_some, Option.some.injEq] at hz; subst hz
     obtain ⟨u, u1, u2⟩ := repL_get g2 hi
     refine ⟨u, ?_, u2, trivial⟩
     simp [execOp, ho, g1, Instr.extract, u1]
 · cases hz
theorem bnd_sound (hst : St D ν w0 K0 H0 N e H a w K μ) {d : Nat} {lo : Option Operand} {lo' : Option Opd} (hk : okOpd? ν lo lo' = true) {l : Int} (hl : bnd e d lo' = some l) :
   match lo.map a.eval with
   | some (.int _ n) => n = l
   | none => l = d
   | _ => False := by
 cases lo <;> cases lo' <;> simp only [okOpd?, Bool.false_eq_true] at hk
 · simpa [bnd] using hl.symm
 · simp only [bnd] at hl
   split at hl
   · rename_i k n h1
     have e1 := hv_sound hst hk h1
     simp only [rep] at e1
     simp only [Option.some.injEq] at hl; subst hl
     simp [e1]
   · cases hl
theorem run_bounds2 {lo hi : Option Value} {isS : Bool} {len cap : Nat} {l h : Int} (hl : match lo with | some (.int _ n) => n = l | none => l = 0 | _ => False)
   (hh : match hi with | some (.int _ n) => n = h | none => h = len | _ => False) (h0 : 0 ≤ l) (h1 : l ≤ h) (h2 : h ≤ len) (h3 : len ≤ cap) :
   (Instr.sliceBounds isS len cap lo hi none).run P w = .ok (l.toNat, h.toNat, cap) w := by
 have hb : ∀ (k : IntKind) (n : Int) (y : Nat) (code : BoundsCode), 0 ≤ n → n ≤ y → (Instr.sliceBound (.int k n) y code).run P w = .ok n.toNat w := fun k n y c a b => run_boundsOk k n y c a b
 unfold Instr.sliceBounds
 rcases lo with _ | lo <;> rcases hi with _ | hi
 · simp only at hl hh; subst hl; subst hh; simp
 · cases hi <;> simp only at hh
   simp only at hl; subst hl; subst hh
   rename_i k n
   have hb1 := fun c => hb k n cap c h1 (by omega)
   simp [hb1]
 · cases lo <;> simp only at hl
   simp only at hh; subst hl; subst hh
   rename_i k n
   have hb1 := fun c => hb k n len c h0 h1
   simp [hb1]
 · cases lo <;> simp only at hl
   cases hi <;> simp only at hh
   subst hl; subst hh
   rename_i k n k' n'
   have hb1 := fun c => hb k' n' cap c (by omega) (by omega)
   have hb2 := fun c => hb k n n'.toNat c h0 (by omega)
   simp [hb1, hb2]
theorem ev_ssl (hst : St D ν w0 K0 H0 N e H a w K μ) {T x lo hi x' lo' hi'} (ho : o.op = .slice T x lo hi none) (hT : isStr P T = true) (hx : okOpd ν x x' = true) (hlo : okOpd? ν lo lo' = true) (hhi : okOpd? ν hi hi' = true)
   {z} (hz : (SOp.ssl x' lo' hi').ev e H = some z) : Calm P ν K μ e a w o z := by
 have hu := isStr_under hT
 simp only [SOp.ev] at hz
 split at hz
 · rename_i s h1
   have e1 := hv_sound hst hx h1
   simp only [rep] at e1
   split at hz
   · rename_i l h hl hh
     have b1 := bnd_sound hst hlo hl
     have b2 := bnd_sound hst hhi hh
     split at hz
     · rename_i hc
       simp only [Option.some.injEq] at hz; subst hz
       refine ⟨.string (s.extract l.toNat h.toNat), ?_, by simp [repE, rep], trivial⟩
       have := run_bounds2 (P := P) (w := w) (isS := false) (cap := s.size) b1 b2 hc.1 hc.2.1 hc.2.2 (Nat.le_refl _)
       simp [execOp, ho, e1, Instr.sliceAt, Instr.slice, run_underlying hu, this]
     · cases hz
   · cases hz
 · cases hz
end
end Sm
