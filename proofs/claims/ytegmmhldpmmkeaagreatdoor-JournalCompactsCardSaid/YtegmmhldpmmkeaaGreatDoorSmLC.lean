/-
  H,I,J,L,O,M
-/
import Derived.Test.YtegmmhldpmmkeaaGreatDoorSmLB
import Derived.Laws.StructEq
set_option linter.unusedVariables false
set_option linter.unusedSimpArgs false
set_option linter.unnecessarySimpa false
namespace Sm
open Go
theorem flat_drop {ν K w sz} : ∀ (l : Nat) {es : List HV} {vals : List Value}, repL ν K w es vals → es.all HV.el = true → (∀ e ∈ es, e.ncells = sz) → flat (vals.drop l) = (flat vals).drop (l * sz)
 | 0, es, vals, _, _, _ => by simp
 | l + 1, [], vals, h, _, _ => by simp [repL] at h; subst h; simp [flat]
 | l + 1, g :: es, vals, hr, ha, hs => by
   obtain ⟨u, us', rfl, h1, h2⟩ := hr
   simp only [List.all_cons, Bool.and_eq_true] at ha
   have hsz := rep_cells_size ha.1 h1
   have hg := hs g (by simp)
   have ih := flat_drop l h2 ha.2 (fun e he => hs e (by simp [he]))
   have hl : u.cells.toList.length = sz := by rw [Array.length_toList, hsz, hg]
   simp only [List.drop_succ_cons, ih]
   simp only [flat, List.flatMap_cons]
   have e0 : u.cells.toList.drop ((l + 1) * sz) = [] := List.drop_eq_nil_of_le (by rw [hl, Nat.add_mul]; omega)
   rw [List.drop_append, e0, hl]
   simp [show (l + 1) * sz - sz = l * sz by rw [Nat.add_mul]; omega]
theorem flat_take {ν K w sz} : ∀ (l : Nat) {es : List HV} {vals : List Value}, repL ν K w es vals → es.all HV.el = true → (∀ e ∈ es, e.ncells = sz) → flat (vals.take l) = (flat vals).take (l * sz)
 | 0, es, vals, _, _, _ => by simp [flat]
 | l + 1, [], vals, h, _, _ => by simp [repL] at h; subst h; simp [flat]
 | l + 1, g :: es, vals, hr, ha, hs => by
   obtain ⟨u, us', rfl, h1, h2⟩ := hr
   simp only [List.all_cons, Bool.and_eq_true] at ha
   have hsz := rep_cells_size ha.1 h1
   have hg := hs g (by simp)
   have ih := flat_take l h2 ha.2 (fun e he => hs e (by simp [he]))
   have hl : u.cells.toList.length = sz := by rw [Array.length_toList, hsz, hg]
   simp only [flat, List.take_succ_cons, List.flatMap_cons] at ih ⊢
   have e0 : u.cells.toList.take ((l + 1) * sz) = u.cells.toList := List.take_of_length_le (by rw [hl, Nat.add_mul]; omega)
   rw [ih, List.take_append, e0, hl]
   simp [show (l + 1) * sz - sz = l * sz by rw [Nat.add_mul]; omega]
theorem all_sub {p : HV → Bool} {es : List HV} (h : es.all p = true) (l n : Nat) : ((es.drop l).take n).all p = true := by
 rw [List.all_eq_true] at h ⊢
 exact fun z hz => h z (List.mem_of_mem_drop (List.mem_of_mem_take hz))
theorem rep_piece {ν K w sz} {tk tk' : Tk} {es : List HV} {A : Option Addr} {cap : Nat} {l h cap' : Nat} {A' : Option Addr} (hr : rep ν K w (.sl tk sz es) (.slice A es.length cap)) (hlh : l ≤ h) (hh : h ≤ es.length)
   (hA : l < h → A' = A.map fun x => x.add (l * sz)) (hc : h - l ≤ cap') (hm : cap' ≤ cap) (htk : tkok tk' A' (h - l) cap') :
   rep ν K w (.sl tk' sz ((es.drop l).take (h - l))) (.slice A' (h - l) cap') := by
 simp only [rep] at hr ⊢
 obtain ⟨A1, cap1, vals, g1, g2, g3, g4, g5, g6, g7, g8⟩ := hr
 simp only [Value.slice.injEq] at g1
 obtain ⟨rfl, _, rfl⟩ := g1
 have hlen : ((es.drop l).take (h - l)).length = h - l := by rw [List.length_take, List.length_drop]; omega
 refine ⟨A', cap', (vals.drop l).take (h - l), by rw [hlen], by omega, by omega, by rw [hlen]; exact htk, all_sub g5 l _, fun e he => g6 e (List.mem_of_mem_drop (List.mem_of_mem_take he)), repL_take _ (repL_drop _ g7), ?_⟩
 by_cases hlt : l < h
 · right
   rcases g8 with g8 | ⟨b, off, hA1, hK, hcell⟩
   · subst g8; simp at hh; omega
   · subst hA1
     refine ⟨b, off + l * sz, by rw [hA hlt]; simp [addr_add], ?_, ?_⟩
     · rw [hlen, Nat.add_assoc, ← Nat.add_mul, show l + (h - l) = h by omega]
       exact Nat.le_trans (Nat.add_le_add_left (Nat.mul_le_mul_right _ hh) _) hK
     · rw [flat_take _ (repL_drop l g7) (by rw [List.all_eq_true] at g5 ⊢; exact fun z hz => g5 z (List.mem_of_mem_drop hz)) (fun e he => g6 e (List.mem_of_mem_drop he)), flat_drop l g7 g5 g6]
       exact cellsAt_take (cellsAt_drop hcell _) _
 · left
   rw [show h - l = 0 by omega]; simp
section
variable {P : Program} {D : List (Nat × List HV)} {ν : Nat → Option Nat} {w0 : World} {K0 : Nat → Nat} {H0 : Heap} {N : Nat} {e : Env} {H : Heap} {a : Act} {w : World} {K μ : Nat → Nat} {o : Oper}
theorem run_bounds3 {lo hi : Option Value} {mx : Value} {len cap : Nat} {l h : Int} {k : IntKind} (hl : match lo with | some (.int _ n) => n = l | none => l = 0 | _ => False)
   (hh : match hi with | some (.int _ n) => n = h | none => False | _ => False) (h0 : 0 ≤ l) (h1 : l ≤ h) (h2 : h ≤ cap) :
   (Instr.sliceBounds true len cap lo hi (some (.int k h))).run P w = .ok (l.toNat, h.toNat, h.toNat) w := by
 have hb : ∀ (k : IntKind) (n : Int) (y : Nat) (code : BoundsCode), 0 ≤ n → n ≤ y → (Instr.sliceBound (.int k n) y code).run P w = .ok n.toNat w := fun k n y c a b => run_boundsOk k n y c a b
 unfold Instr.sliceBounds
 rcases hi with _ | hi
 · exact hh.elim
 cases hi <;> simp only at hh
 rename_i k1 n1
 subst hh
 have hb0 := fun c => hb k n1 cap c (by omega) h2
 have hb1 := fun c => hb k1 n1 n1.toNat c (by omega) (by omega)
 rcases lo with _ | lo
 · simp only at hl; subst hl; simp [hb0, hb1]
 · cases lo <;> simp only at hl
   rename_i k2 n2
   subst hl
   have hb2 := fun c => hb k2 n2 n1.toNat c h0 (by omega)
   simp [hb0, hb1, hb2]
theorem run_boundsA {lo hi : Option Value} {len cap : Nat} {l h : Int} (hl : match lo with | some (.int _ n) => n = l | none => l = 0 | _ => False)
   (hh : match hi with | some (.int _ n) => n = h | none => h = len | _ => False) (h0 : 0 ≤ l) (h1 : l ≤ h) (h2 : h ≤ cap) :
   (Instr.sliceBounds true len cap lo hi none).run P w = .ok (l.toNat, h.toNat, cap) w := by
 have hb : ∀ (k : IntKind) (n : Int) (y : Nat) (code : BoundsCode), 0 ≤ n → n ≤ y → (Instr.sliceBound (.int k n) y code).run P w = .ok n.toNat w := fun k n y c a b => run_boundsOk k n y c a b
 unfold Instr.sliceBounds
 rcases lo with _ | lo <;> rcases hi with _ | hi
 · simp only at hl hh; subst hl; subst hh; simp
 · cases hi <;> simp only at hh
   simp only at hl; subst hl; subst hh
   rename_i k n
   have hb1 := fun c => hb k n cap c h1 (by omega)
   simp [hb1]
 · cases lo <;> simp only at hl
   simp only at hh; subst hl; subst hh
   rename_i k n
   have hb1 := fun c => hb k n len c h0 h1
   simp [hb1]
 · cases lo <;> simp only at hl
   cases hi <;> simp only at hh
   subst hl; subst hh
   rename_i k n k' n'
   have hb1 := fun c => hb k' n' cap c (by omega) (by omega)
   have hb2 := fun c => hb k n n'.toNat c h0 (by omega)
   simp [hb1, hb2]
theorem run_boundsB {lo hi : Option Value} {len cap : Nat} {l h m : Int} {k : IntKind} (hl : match lo with | some (.int _ n) => n = l | none => l = 0 | _ => False)
   (hh : match hi with | some (.int _ n) => n = h | none => False | _ => False) (h0 : 0 ≤ l) (h1 : l ≤ h) (h2 : h ≤ m) (h3 : m ≤ cap) :
   (Instr.sliceBounds true len cap lo hi (some (.int k m))).run P w = .ok (l.toNat, h.toNat, m.toNat) w := by
 have hb : ∀ (k : IntKind) (n : Int) (y : Nat) (code : BoundsCode), 0 ≤ n → n ≤ y → (Instr.sliceBound (.int k n) y code).run P w = .ok n.toNat w := fun k n y c a b => run_boundsOk k n y c a b
 unfold Instr.sliceBounds
 rcases hi with _ | hi
 · exact hh.elim
 cases hi <;> simp only at hh
 rename_i k1 n1
 subst hh
 have hb0 := fun c => hb k m cap c (by omega) h3
 have hb1 := fun c => hb k1 n1 m.toNat c (by omega) (by omega)
 rcases lo with _ | lo
 · simp only at hl; subst hl; simp [hb0, hb1]
 · cases lo <;> simp only at hl
   rename_i k2 n2
   subst hl
   have hb2 := fun c => hb k2 n2 n1.toNat c h0 (by omega)
   simp [hb0, hb1, hb2]
theorem ev_asl (hst : St D ν w0 K0 H0 N e H a w K μ) {T x lo hi x' lo' hi' el n sz} (ho : o.op = .slice T x lo hi none) (hT : Sm.arrOf P T = some (n, el)) (hsz : szOf P el = some sz) (hx : okOpd ν x x' = true)
   (hlo : okOpd? ν lo lo' = true) (hhi : okOpd? ν hi hi' = true)
   {z} (hz : (SOp.asl n sz x' lo' hi').ev e H = some z) : Calm P ν K μ e a w o z := by
 have hu := arrOf_under hT
 simp only [SOp.ev] at hz
 split at hz
 · rename_i b off h1
   have e1 := hv_sound hst hx h1
   simp only [rep] at e1
   split at hz
   · rename_i l h hl hh
     have b1 := bnd_sound hst hlo hl
     have b2 := bnd_sound hst hhi hh
     split at hz
     · rename_i hc
       obtain ⟨c0, c1, c2⟩ := hc
       simp only [Option.some.injEq] at hz; subst hz
       have hr := run_bounds2 (P := P) (w := w) (isS := false) (len := n) (cap := n) b1 b2 c0 c1 c2 (Nat.le_refl _)
       refine ⟨.slice (some ⟨b, if n = l.toNat then off else off + l.toNat * sz, none⟩) (h.toNat - l.toNat) (n - l.toNat), ?_, by simp [repE, rep], trivial⟩
       simp only [execOp, ho, e1, Instr.sliceAt, run_underlying hu, Instr.sureAddr, hr, run_sizeOf hsz, Sem.run_bind, Sem.run_pure, Result.andThen_ok, Option.map_none, addr_add]
       split <;> rfl
     · cases hz
   · cases hz
 · cases hz
theorem ev_slc (hst : St D ν w0 K0 H0 N e H a w K μ) {T x lo hi mx x' lo' hi' mx' el sz} (ho : o.op = .slice T x lo hi mx) (hT : Sm.elemOf P T = some el) (hsz : szOf P el = some sz) (hx : okOpd ν x x' = true)
   (hlo : okOpd? ν lo lo' = true) (hhi : okOpd? ν hi hi' = true) (hmx : okOpd? ν mx mx' = true) (hmh : (mx.isNone || hi.isSome) = true)
   {z} (hz : (SOp.slc sz x' lo' hi' mx').ev e H = some z) : Calm P ν K μ e a w o z := by
 have hu := elemOf_under hT
 have base : ∀ A len cap l h m, a.eval x = .slice A len cap → (Instr.sliceBounds true len cap (lo.map a.eval) (hi.map a.eval) (mx.map a.eval)).run P w = .ok (l, h, m) w →
     (execOp a.eval o).run P w = .ok (.value (.slice (if m = l then A else A.map (·.add (l * sz))) (h - l) (m - l))) w := by
   intro A len cap l h m h1 h2
   simp [execOp, ho, h1, Instr.sliceAt, Instr.slice, run_underlying hu, h2, run_sizeOf hsz]
 simp only [SOp.ev] at hz
 split at hz
 · rename_i h1
   have e1 := hv_sound hst hx h1
   simp only [rep] at e1
   split at hz
   · rename_i l h m hl hh hm
     have b1 := bnd_sound hst hlo hl
     have b2 := bnd_sound hst hhi hh
     have b3 := bnd_sound hst hmx hm
     split at hz
     · rename_i hc
       obtain ⟨rfl, rfl, rfl⟩ := hc
       simp only [Option.some.injEq] at hz; subst hz
       have hr : (Instr.sliceBounds true 0 0 (lo.map a.eval) (hi.map a.eval) (mx.map a.eval)).run P w = .ok (0, 0, 0) w := by
         rcases mx with _ | mx
         · have := run_bounds2 (P := P) (w := w) (isS := true) (len := 0) (cap := 0) b1 b2 (by omega) (by omega) (by simp) (by omega)
           simpa using this
         · cases hi with
           | none => simp at hmh
           | some hi =>
             cases hev : a.eval mx <;> simp only [Option.map_some, hev] at b3
             rename_i k n; subst b3
             have := run_bounds3 (P := P) (w := w) (mx := a.eval mx) (len := 0) (cap := 0) (l := 0) (h := 0) (k := k) (lo := lo.map a.eval) (hi := some (a.eval hi)) b1 (by
               cases hev2 : a.eval hi <;> simp only [Option.map_some, hev2] at b2 ⊢
               exact b2) (by omega) (by omega) (by simp)
             simpa [hev] using this
       exact ⟨_, base _ _ _ _ _ _ e1 hr, by simp [repE, rep], trivial⟩
     · cases hz
   · cases hz
 · rename_i b off n c h1
   have e1 := hv_sound hst hx h1
   simp only [rep] at e1
   split at hz
   · rename_i l h m hl hh hm
     have b1 := bnd_sound hst hlo hl
     have b2 := bnd_sound hst hhi hh
     have b3 := bnd_sound hst hmx hm
     split at hz
     · rename_i hc
       obtain ⟨c0, c1, c2, c3⟩ := hc
       simp only [Option.some.injEq] at hz; subst hz
       have hr : (Instr.sliceBounds true n c (lo.map a.eval) (hi.map a.eval) (mx.map a.eval)).run P w = .ok (l.toNat, h.toNat, m.toNat) w := by
         rcases mx with _ | mx
         · simp only [Option.map_none] at b3
           subst b3
           simpa using run_boundsA (P := P) (w := w) (len := n) (cap := c) b1 b2 c0 c1 c2
         · cases hi with
           | none => simp at hmh
           | some hi =>
             cases hev : a.eval mx <;> simp only [Option.map_some, hev] at b3
             rename_i k n'; subst b3
             have := run_boundsB (P := P) (w := w) (len := n) (cap := c) (l := l) (h := h) (m := n') (k := k) (lo := lo.map a.eval) (hi := some (a.eval hi)) b1 (by
               cases hev2 : a.eval hi <;> simp only [Option.map_some, hev2] at b2 ⊢
               exact b2) c0 c1 c2 c3
             simpa [hev] using this
       have hml : (m.toNat = l.toNat) = (m = l) := by apply propext; omega
       refine ⟨_, base _ _ _ _ _ _ e1 hr, ?_, trivial⟩
       simp only [repE, rep, hml, Option.map_some, addr_add]
       split <;> rfl
     · cases hz
   · cases hz
 · rename_i tk sz' es h1
   have e1 := hv_sound hst hx h1
   have e1' := e1
   simp only [rep] at e1
   obtain ⟨A, cap, vals, g1, g2, g3, g4, g5, g6, g7, g8⟩ := e1
   rw [g1] at e1'
   split at hz
   · rename_i l h hl hh
     have b1 := bnd_sound hst hlo hl
     have b2 := bnd_sound hst hhi hh
     split at hz
     · rename_i hc
       obtain ⟨rfl, h0, hlh, hhl⟩ := hc
       split at hz
       · rename_i hmn
         simp only [Option.some.injEq] at hz; subst hz
         have hmx0 : mx = none := by cases mx <;> simp_all [okOpd?]
         subst hmx0
         have hr := run_bounds2 (P := P) (w := w) (isS := true) (len := es.length) (cap := cap) b1 b2 h0 hlh (by omega) g2
         refine ⟨_, base _ _ _ _ _ _ g1 hr, ?_, trivial⟩
         simp only [repE]
         refine rep_piece e1' (by omega) (by omega) (fun hlt => ?_) (by omega) (by omega) ?_
         · rw [if_neg (by omega)]
         · by_cases hall : h = es.length ∧ l = 0
           · obtain ⟨rfl, rfl⟩ := hall
             simp only [and_self, if_true]
             cases tk with
             | no => trivial
             | tip b c =>
               simp only [tkok] at g4 ⊢
               obtain ⟨rfl, rfl⟩ := g4
               split <;> simp [addr_add]
             | full => simpa [tkok] using g4
           · rw [if_neg hall]; trivial
       · rename_i m hmn
         split at hz
         · rename_i km mm hm
           split at hz
           · rename_i hmh'
             subst hmh'
             simp only [Option.some.injEq] at hz; subst hz
             cases mx with
             | none => simp [okOpd?] at hmx
             | some mx =>
               cases hi with
               | none => simp at hmh
               | some hi =>
                 simp only [okOpd?] at hmx
                 have e3 := hv_sound hst hmx hm
                 simp only [rep] at e3
                 have hr := run_bounds3 (P := P) (w := w) (mx := a.eval mx) (len := es.length) (cap := cap) (l := l) (h := mm) (k := km) (lo := lo.map a.eval) (hi := some (a.eval hi)) b1 (by
                   cases hev2 : a.eval hi <;> simp only [Option.map_some, hev2] at b2 ⊢
                   exact b2) h0 hlh (by omega)
                 refine ⟨_, base _ _ _ _ _ _ g1 (by simpa [e3] using hr), ?_, trivial⟩
                 simp only [repE]
                 refine rep_piece e1' (by omega) (by omega) (fun hlt => ?_) (by omega) (by omega) rfl
                 rw [if_neg (by omega)]
           · cases hz
         · cases hz
     · cases hz
   · cases hz
 · cases hz
theorem eqL_split : ∀ {k1 k2 : List Lf} {xs ys : List HV} {r : Bool}, eqL (k1 ++ k2) xs ys = some r → ∃ r1 r2, eqL k1 (xs.take k1.length) (ys.take k1.length) = some r1 ∧ eqL k2 (xs.drop k1.length) (ys.drop k1.length) = some r2 ∧ r = (r1 && r2)
 | [], k2, xs, ys, r, h => ⟨true, r, rfl, h, by simp⟩
 | k :: k1, k2, [], ys, r, h => by simp [eqL] at h
 | k :: k1, k2, _ :: _, [], r, h => by simp [eqL] at h
 | k :: k1, k2, x :: xs, y :: ys, r, h => by
   simp only [List.cons_append, eqL] at h
   split at h
   · rename_i p q h1 h2
     simp only [Option.some.injEq] at h; subst h
     obtain ⟨r1, r2, g1, g2, rfl⟩ := eqL_split h2
     exact ⟨p && r1, r2, by simp only [List.length_cons, List.take_succ_cons, eqL, h1, g1], by simpa using g2, by rw [Bool.and_assoc]⟩
   · cases h
theorem eqL_len : ∀ {ks : List Lf} {xs ys : List HV} {r}, eqL ks xs ys = some r → xs.length = ks.length ∧ ys.length = ks.length
 | [], [], [], _, _ => by simp
 | [], _ :: _, _, _, h => by simp [eqL] at h
 | [], [], _ :: _, _, h => by simp [eqL] at h
 | _ :: _, [], _, _, h => by simp [eqL] at h
 | _ :: _, _ :: _, [], _, h => by simp [eqL] at h
 | k :: ks, x :: xs, y :: ys, r, h => by
   simp only [eqL] at h
   split at h
   · rename_i h2; have := eqL_len h2; simp [this.1, this.2]
   · cases h
def valOf (agg : Bool) (us : List Value) : Value := if agg then .agg us.toArray else (us[0]?).getD Go.undef
theorem flatT_sz {d : Nat} {t : TypeId} {ks : List Lf} (h : flatT P d t = some ks) : ∃ agg, aggOf P t = some agg ∧ szOf P t = some ks.length := by
 cases d with
 | zero => simp [flatT] at h
 | succ d =>
   simp only [flatT] at h
   split at h
   · rename_i hu; split at h
     · rename_i hs; simp only [Option.some.injEq] at h; subst h; exact ⟨false, by simp [aggOf, hu], hs⟩
     · cases h
   · rename_i hu; split at h
     · rename_i hs; simp only [Option.some.injEq] at h; subst h; exact ⟨false, by simp [aggOf, hu], hs⟩
     · cases h
   · rename_i hu; split at h
     · rename_i hs; simp only [Option.some.injEq] at h; subst h; exact ⟨false, by simp [aggOf, hu], hs⟩
     · cases h
   · rename_i fs hu
     split at h
     · split at h
       · split at h
         · rename_i ks' _ hs; simp only [Option.some.injEq] at h; subst h; exact ⟨true, by simp [aggOf, hu], hs⟩
         · cases h
       · cases h
     · cases h
   · rename_i n e hu
     split at h
     · split at h
       · rename_i ks' _ hs; simp only [Option.some.injEq] at h; subst h; exact ⟨true, by simp [aggOf, hu], by rw [hs]; simp⟩
       · cases h
     · cases h
   · cases h
theorem part_run {T : TypeId} {n : Nat} {agg : Bool} (hn : szOf P T = some n) (ha : aggOf P T = some agg) {off : Nat} {us : List Value} (hle : off + n ≤ us.length) (h1 : agg = false → n = 1) :
   (part T us.toArray off).run P w = .ok (valOf agg ((us.drop off).take n)) w := by
 cases agg with
 | true => simp [part, run_isAgg ha, run_sizeOf hn, valOf, List.take_drop]
 | false =>
   have hn1 := h1 rfl
   subst hn1
   have hlt : off < us.length := by omega
   simp [part, run_isAgg ha, hlt, valOf, List.getElem?_take, List.getElem?_drop]
theorem flatT_one {d : Nat} {t : TypeId} {ks : List Lf} (h : flatT P d t = some ks) (ha : aggOf P t = some false) : ks.length = 1 := by
 cases d with
 | zero => simp [flatT] at h
 | succ d =>
   simp only [flatT] at h
   split at h
   · split at h
     · simp only [Option.some.injEq] at h; subst h; rfl
     · cases h
   · split at h
     · simp only [Option.some.injEq] at h; subst h; rfl
     · cases h
   · split at h
     · simp only [Option.some.injEq] at h; subst h; rfl
     · cases h
   · rename_i hu; simp [aggOf, hu] at ha
   · rename_i hu; simp [aggOf, hu] at ha
   · cases h
theorem eqs_i {x y : HV} {u v : Value} {r : Bool} (hx : rep ν K w x u) (hy : rep ν K w y v) (h : eqs .i x y = some r) : ∃ k a b, u = .int k a ∧ v = .int k b ∧ r = (a == b) := by
 unfold eqs at h
 split at h
 · split at h
   · rename_i k a k' b _ hk; subst hk
     simp only [Option.some.injEq] at h; simp only [rep] at hx hy
     exact ⟨_, _, _, hx, hy, h.symm⟩
   · cases h
 · contradiction
 · contradiction
 · cases h
theorem eqs_b {x y : HV} {u v : Value} {r : Bool} (hx : rep ν K w x u) (hy : rep ν K w y v) (h : eqs .b x y = some r) : ∃ a b, u = .bool a ∧ v = .bool b ∧ r = (a == b) := by
 unfold eqs at h
 split at h
 · contradiction
 · simp only [Option.some.injEq] at h; simp only [rep] at hx hy
   exact ⟨_, _, hx, hy, h.symm⟩
 · contradiction
 · cases h
theorem eqs_s {x y : HV} {u v : Value} {r : Bool} (hx : rep ν K w x u) (hy : rep ν K w y v) (h : eqs .s x y = some r) : ∃ a b, u = .string a ∧ v = .string b ∧ r = (a == b) := by
 unfold eqs at h
 split at h
 · contradiction
 · contradiction
 · simp only [Option.some.injEq] at h; simp only [rep] at hx hy
   exact ⟨_, _, hx, hy, h.symm⟩
 · cases h
theorem eq_flat : ∀ (d : Nat) {t : TypeId} {ks : List Lf}, flatT P d t = some ks → ∀ (k : Nat) {agg : Bool}, aggOf P t = some agg → ∀ {xs ys : List HV} {us vs : List Value} {r : Bool}, repL ν K w xs us → repL ν K w ys vs →
   eqL ks xs ys = some r → (Op.equalIn (k + d) t (valOf agg us) (valOf agg vs)).run P w = .ok r w
 | 0, t, ks, h, _, _, _, _, _, _, _, _, _, _, _ => by simp [flatT] at h
 | d + 1, t, ks, h, k, agg, ha, xs, ys, us, vs, r, hx, hy, he => by
   simp only [flatT] at h
   have leaf : ∀ (l : Lf), ks = [l] → agg = false → ∃ x y u v, xs = [x] ∧ ys = [y] ∧ us = [u] ∧ vs = [v] ∧ rep ν K w x u ∧ rep ν K w y v ∧ eqs l x y = some r := by
     rintro l rfl rfl
     obtain ⟨l1, l2⟩ := eqL_len he
     match xs, ys, l1, l2 with
     | [x], [y], _, _ =>
       obtain ⟨u, us', rfl, hu, hus⟩ := hx
       obtain ⟨v, vs', rfl, hv, hvs⟩ := hy
       simp only [repL] at hus hvs
       subst hus; subst hvs
       simp only [eqL] at he
       split at he
       · rename_i p q h1 h2
         simp only [Option.some.injEq] at h2; subst h2
         simp only [Bool.and_true, Option.some.injEq] at he; subst he
         exact ⟨x, y, u, v, rfl, rfl, rfl, rfl, hu, hv, h1⟩
       · cases he
   split at h
   · rename_i hu
     split at h
     · simp only [Option.some.injEq] at h; subst h
       have hag : agg = false := by simpa [aggOf, hu] using ha.symm
       obtain ⟨x, y, u, v, rfl, rfl, rfl, rfl, r1, r2, r3⟩ := leaf .b rfl hag
       obtain ⟨a, b, rfl, rfl, rfl⟩ := eqs_b r1 r2 r3
       subst hag
       rw [show k + (d + 1) = (k + d) + 1 by omega]
       simp [valOf, Op.equalIn, run_underlying hu]
     · cases h
   · rename_i hu
     split at h
     · simp only [Option.some.injEq] at h; subst h
       have hag : agg = false := by simpa [aggOf, hu] using ha.symm
       obtain ⟨x, y, u, v, rfl, rfl, rfl, rfl, r1, r2, r3⟩ := leaf .i rfl hag
       obtain ⟨kk, a, b, rfl, rfl, rfl⟩ := eqs_i r1 r2 r3
       subst hag
       rw [show k + (d + 1) = (k + d) + 1 by omega]
       simp [valOf, Op.equalIn, run_underlying hu]
     · cases h
   · rename_i hu
     split at h
     · simp only [Option.some.injEq] at h; subst h
       have hag : agg = false := by simpa [aggOf, hu] using ha.symm
       obtain ⟨x, y, u, v, rfl, rfl, rfl, rfl, r1, r2, r3⟩ := leaf .s rfl hag
       obtain ⟨a, b, rfl, rfl, rfl⟩ := eqs_s r1 r2 r3
       subst hag
       rw [show k + (d + 1) = (k + d) + 1 by omega]
       simp [valOf, Op.equalIn, run_underlying hu]
     · cases h
   · rename_i fs hu
     split at h
     · rename_i hst
       split at h
       · rename_i ks' hks
         split at h
         · rename_i hsz
           simp only [Option.some.injEq] at h; subst h
           have hag : agg = true := by simpa [aggOf, hu] using ha.symm
           subst hag
           have hf : P.fieldsOf t = fs := by simp [Program.fieldsOf, hu]
           have hlx := repL_length hx
           have hly := repL_length hy
           have key : ∀ (fl : List Field) (off : Nat) (kl : List Lf) (r : Bool), off ≤ xs.length → off ≤ ys.length → flatF P (flatT P d) off fl = some kl → eqL kl (xs.drop off) (ys.drop off) = some r → (Op.eqFields (k + d) us.toArray vs.toArray fl).run P w = .ok r w := by
             intro fl
             induction fl with
             | nil =>
               intro off kl r ho1 ho2 hfl hel
               simp only [flatF, Option.some.injEq] at hfl; subst hfl
               have hel' : r = true := by
                 cases hxd : xs.drop off <;> cases hyd : ys.drop off <;> simp [eqL, hxd, hyd] at hel
                 exact hel
               subst hel'
               simp [Op.eqFields]
             | cons f fl ih =>
               intro off kl r ho1 ho2 hfl hel
               simp only [flatF] at hfl
               split at hfl
               · rename_i hc
                 split at hfl
                 · rename_i kf hkf
                   obtain ⟨kr, hkr, rfl⟩ := Option.map_eq_some_iff.1 hfl
                   obtain ⟨r1, r2, e1, e2, rfl⟩ := eqL_split hel
                   obtain ⟨ag, ha1, hs1⟩ := flatT_sz hkf
                   obtain ⟨m1, m2⟩ := eqL_len e1
                   rw [List.length_take, List.length_drop] at m1 m2
                   have hone : ag = false → kf.length = 1 := fun hf => flatT_one hkf (by rw [ha1, hf])
                   have p1 := part_run (P := P) (w := w) hs1 ha1 (off := off) (us := us) (by omega) hone
                   have p2 := part_run (P := P) (w := w) hs1 ha1 (off := off) (us := vs) (by omega) hone
                   have q := eq_flat d hkf k ha1 (repL_take kf.length (repL_drop off hx)) (repL_take kf.length (repL_drop off hy)) e1
                   have ihh := ih (off + kf.length) kr r2 (by omega) (by omega) hkr (by simpa [List.drop_drop] using e2)
                   have hn : f.name ≠ "_" := by simpa using hc.1
                   rw [Op.eqFields]
                   simp only [if_pos hn, Sem.run_bind, p1, p2, hc.2, q, Result.andThen_ok]
                   cases r1
                   · simp
                   · simpa using ihh
                 · cases hfl
               · cases hfl
           rw [show k + (d + 1) = (k + d) + 1 by omega]
           simp only [valOf, if_true]
           rw [run_equalIn_struct (P := P) w (k + d) t us.toArray vs.toArray (by rw [hf]; exact hu) hst, hf]
           exact key fs.toList 0 ks' r (by omega) (by omega) hks (by simpa using he)
         · cases h
       · cases h
     · cases h
   · rename_i n el hu
     split at h
     · rename_i kf hkf
       split at h
       · rename_i hsz
         simp only [Option.some.injEq] at h; subst h
         have hag : agg = true := by simpa [aggOf, hu] using ha.symm
         subst hag
         obtain ⟨ag, ha1, hs1⟩ := flatT_sz hkf
         have hone : ag = false → kf.length = 1 := fun hf => flatT_one hkf (by rw [ha1, hf])
         have hlx := repL_length hx
         have hly := repL_length hy
         rw [show k + (d + 1) = (k + d) + 1 by omega]
         simp only [valOf, if_true, Op.equalIn, Sem.run_bind, run_underlying hu, Result.andThen_ok, run_sizeOf hs1]
         rw [Std.Legacy.Range.forIn_eq_forIn_range']
         have key : ∀ (m i : Nat) (r : Bool), i * kf.length ≤ xs.length → i * kf.length ≤ ys.length → eqL (List.replicate m kf).flatten (xs.drop (i * kf.length)) (ys.drop (i * kf.length)) = some r →
             (forIn (List.range' i m 1) ((none : Option Bool), ()) (fun (j : Nat) (_ : Option Bool × Unit) => (do
               let a ← part el us.toArray (j * kf.length)
               let b ← part el vs.toArray (j * kf.length)
               let c ← Op.equalIn (k + d) el a b
               if (!c) = true then pure (ForInStep.done (some false, ())) else pure (ForInStep.yield (none, ())) : Sem (ForInStep (Option Bool × Unit)))) : Sem (Option Bool × Unit)).run P w = .ok ((if r then none else some false), ()) w := by
           intro m
           induction m with
           | zero =>
             intro i r _ _ hel
             have hel' : r = true := by
               simp only [List.replicate_zero, List.flatten_nil] at hel
               cases hxd : xs.drop (i * kf.length) <;> cases hyd : ys.drop (i * kf.length) <;> simp [eqL, hxd, hyd] at hel
               exact hel
             subst hel'
             simp
           | succ m ih =>
             intro i r ho1 ho2 hel
             rw [List.replicate_succ, List.flatten_cons] at hel
             obtain ⟨r1, r2, e1, e2, rfl⟩ := eqL_split hel
             obtain ⟨m1, m2⟩ := eqL_len e1
             rw [List.length_take, List.length_drop] at m1 m2
             have p1 := part_run (P := P) (w := w) hs1 ha1 (off := i * kf.length) (us := us) (by omega) hone
             have p2 := part_run (P := P) (w := w) hs1 ha1 (off := i * kf.length) (us := vs) (by omega) hone
             have q := eq_flat d hkf k ha1 (repL_take kf.length (repL_drop (i * kf.length) hx)) (repL_take kf.length (repL_drop (i * kf.length) hy)) e1
             have hmul : (i + 1) * kf.length = i * kf.length + kf.length := by rw [Nat.add_mul]; omega
             have ihh := ih (i + 1) r2 (by omega) (by omega) (by rw [hmul]; simpa [List.drop_drop] using e2)
             rw [List.range'_succ, List.forIn_cons]
             simp only [Sem.run_bind, p1, p2, q, Result.andThen_ok]
             cases r1
             · simp
             · simpa using ihh
         have hk0 := key n 0 r (by omega) (by omega) (by simpa using he)
         have hsize : ([:n] : Std.Legacy.Range).size = n := by simp [Std.Legacy.Range.size]
         rw [hsize]
         have : (forIn (List.range' 0 n 1) ((none : Option Bool), ()) (fun (j : Nat) (_ : Option Bool × Unit) => (do
               let a ← part el us.toArray (j * kf.length)
               let b ← part el vs.toArray (j * kf.length)
               let c ← Op.equalIn (k + d) el a b
               if (!c) = true then pure (ForInStep.done (some false, ())) else pure (ForInStep.yield (none, ())) : Sem (ForInStep (Option Bool × Unit)))) : Sem (Option Bool × Unit)).run P w = .ok ((if r then none else some false), ()) w := hk0
         rw [this]
         cases r <;> simp
       · cases h
     · cases h
   · cases h
theorem eqIn_bool {d : Nat} {t : TypeId} {x y : Bool} (h : P.underlying t = some .bool) : (Op.equalIn (d + 1) t (.bool x) (.bool y)).run P w = .ok (x == y) w := by
 simp [Op.equalIn, run_underlying h]
theorem ev_eq (hst : St D ν w0 K0 H0 N e H a w K μ) {t x y yt x' y' k} {ne : Bool} (ho : o.op = .binOp (if ne then .neq else .eql) t x y yt) (hk : okEq P t k = true) (hx : okOpd ν x x' = true) (hy : okOpd ν y y' = true)
   {z} (hz : (SOp.eq k ne x' y').ev e H = some z) : Calm P ν K μ e a w o z := by
 simp only [SOp.ev] at hz
 split at hz
 · rename_i p q h1 h2
   have e1 := hv_sound hst hx h1
   have e2 := hv_sound hst hy h2
   cases hq : eqv k p q with
   | none => simp [hq] at hz
   | some r =>
     simp only [hq, Option.map_some, Option.some.injEq] at hz; subst hz
     have fin : ∀ u v, a.eval x = u → a.eval y = v → (∀ op, eqGuard op t x y u v = pure ()) → (binOp .eql t u v = (do pure (.bool (← Op.equal t u v)))) → (binOp .neq t u v = (do pure (.bool (!(← Op.equal t u v))))) →
         (∀ d, (Op.equalIn (d + 1) t u v).run P w = .ok r w) → Calm P ν K μ e a w o (.h (.v (.bool (if ne then !r else r)))) := by
       intro u v hu hv hg hb1 hb2 hr
       refine ⟨.bool (if ne then !r else r), ?_, by simp [repE, rep], trivial⟩
       have hr' : (Op.equal t u v).run P w = .ok r w := hr 9999
       cases ne <;> simp [execOp, ho, hu, hv, hg, hb1, hb2, hr']
     unfold eqv at hq
     cases k
     ·
       simp only at hq
       split at hq
       · simp only [Option.some.injEq] at hq; subst hq
         simp only [rep] at e1 e2
         simp only [okEq] at hk
         split at hk
         · rename_i hu
           exact fin _ _ e1 e2 (fun op => by cases op <;> rfl) rfl rfl (fun d => eqIn_bool hu)
         · cases hk
       · cases hq
     ·
       simp only [okEq] at hk
       split at hk
       · rename_i el hu
         simp only at hq
         split at hq
         · simp only [Option.some.injEq] at hq; subst hq
           simp only [rep] at e1 e2
           exact fin _ _ e1 e2 (fun op => by cases op <;> rfl) rfl rfl (fun d => by simp [Op.equalIn, run_underlying hu])
         · simp only [Option.some.injEq] at hq; subst hq
           simp only [rep] at e1 e2
           exact fin _ _ e1 e2 (fun op => by cases op <;> rfl) rfl rfl (fun d => by simp [Op.equalIn, run_underlying hu])
         · simp only [Option.some.injEq] at hq; subst hq
           simp only [rep] at e1 e2
           obtain ⟨b, off, us, g1, _⟩ := e1
           exact fin _ _ g1 e2 (fun op => by cases op <;> rfl) rfl rfl (fun d => by simp [Op.equalIn, run_underlying hu])
         · cases hq
       · cases hk
     ·
       simp only [okEq] at hk
       split at hk
       · rename_i hu
         simp only at hq
         split at hq
         · simp only [Option.some.injEq] at hq; subst hq
           simp only [rep] at e1 e2
           exact fin _ _ e1 e2 (fun op => by cases op <;> rfl) rfl rfl (fun d => by simp [Op.equalIn, run_underlying hu])
         · simp only [Option.some.injEq] at hq; subst hq
           simp only [rep] at e1 e2
           obtain ⟨n, us, _, g1, _⟩ := e1
           exact fin _ _ g1 e2 (fun op => by cases op <;> rfl) rfl rfl (fun d => by simp [Op.equalIn, run_underlying hu])
         · cases hq
       · cases hk
     ·
       simp only [okEq] at hk
       split at hk
       · rename_i el hu
         simp only at hq
         split at hq
         · simp only [Option.some.injEq] at hq; subst hq
           simp only [rep] at e1 e2
           exact fin _ _ e1 e2 (fun op => by cases op <;> rfl) rfl rfl (fun d => by simp [Op.equalIn, run_underlying hu])
         · rename_i tk sz g gs _ _
           simp only [rep] at e1 e2
           split at hq
           · cases hq
           · simp only [Option.some.injEq] at hq; subst hq
             obtain ⟨A, cap, vals, g1, g2, g3, g4, g5, g6, g7, g8⟩ := e1
             rcases g8 with g8 | ⟨b, off, hA, _⟩
             · cases g8
             · subst hA
               exact fin _ _ g1 e2 (fun op => by cases op <;> rfl) rfl rfl (fun d => by simp [Op.equalIn, run_underlying hu])
         · cases hq
       · cases hk
     ·
       rename_i ks
       simp only [okEq, Bool.and_eq_true, decide_eq_true_eq, Bool.not_eq_true'] at hk
       simp only at hq
       split at hq
       · rename_i xs ys
         simp only [rep] at e1 e2
         obtain ⟨us, f1, _, f2⟩ := e1
         obtain ⟨vs, g1, _, g2⟩ := e2
         have hr := eq_flat (P := P) 20 hk.1.1 9980 hk.2 f2 g2 hq
         simp only [valOf, if_true] at hr
         refine ⟨.bool (if ne then !r else r), ?_, by simp [repE, rep], trivial⟩
         have hgd := fun op => run_eqGuard_agg (P := P) w op t x y us.toArray vs.toArray hk.1.2
         cases ne
         · simp only [Bool.false_eq_true, if_false] at ho
           simp only [execOp, ho, f1, g1, Sem.run_bind, hgd, Result.andThen_ok, run_eql_struct, hr, Sem.run_pure, Bool.false_eq_true, if_false]
         · simp only [if_true] at ho
           simp only [execOp, ho, f1, g1, Sem.run_bind, hgd, Result.andThen_ok, run_neq_struct, hr, Sem.run_pure, if_true]
       · cases hq
 · cases hz
end
end Sm
namespace Sm
open Go
theorem setL_length {α : Type} : ∀ (vs : List α) (cs : List α) (off : Nat), (setL cs off vs).length = cs.length
 | [], cs, off => rfl
 | v :: vs, cs, off => by simp only [setL]; rw [setL_length vs]; simp
theorem seg_step {α : Type} (l : List α) (k : Nat) (v : α) (rest : List α) (hk : k + (rest.length + 1) ≤ l.length) :
   (l.set k v).take (k + 1) ++ rest ++ (l.set k v).drop (k + 1 + rest.length) = l.take k ++ (v :: rest) ++ l.drop (k + (rest.length + 1)) := by
 have h1 : (l.set k v).take (k + 1) = l.take k ++ [v] := by
   rw [List.take_set, List.take_succ_eq_append_getElem (by omega)]
   rw [List.set_append_right _ _ (by simp; omega)]
   simp [show k - min k l.length = 0 by omega]
 have h2 : (l.set k v).drop (k + 1 + rest.length) = l.drop (k + (rest.length + 1)) := by
   rw [List.drop_set_of_lt (by omega)]; congr 1; omega
 rw [h1, h2]; simp
theorem setL_eq {α : Type} : ∀ (vs : List α) (cs : List α) (off : Nat), off + vs.length ≤ cs.length → setL cs off vs = cs.take off ++ vs ++ cs.drop (off + vs.length)
 | [], cs, off, _ => by simp [setL]
 | v :: vs, cs, off, h => by
   simp only [List.length_cons] at h
   simp only [setL]
   rw [setL_eq vs (cs.set off v) (off + 1) (by simp; omega), seg_step cs off v vs (by omega)]
   rfl
theorem repL_set {ν K w} : ∀ {hs : List HV} {us : List Value} (i : Nat) {h : HV} {u : Value}, repL ν K w hs us → rep ν K w h u → repL ν K w (hs.set i h) (us.set i u)
 | [], us, i, h, u, hr, _ => by simp [repL] at hr; subst hr; simp [repL]
 | g :: hs, us, i, h, u, hr, h' => by
   obtain ⟨v, vs, rfl, h1, h2⟩ := hr
   cases i with
   | zero => exact ⟨u, vs, by simp, h', h2⟩
   | succ i => exact ⟨v, vs.set i u, by simp, h1, repL_set i h2 h'⟩
theorem repL_setL {ν K w} : ∀ {ns : List HV} {vs : List Value} {hs : List HV} {us : List Value} (off : Nat), repL ν K w hs us → repL ν K w ns vs → repL ν K w (setL hs off ns) (setL us off vs)
 | [], vs, hs, us, off, hr, hn => by simp [repL] at hn; subst hn; exact hr
 | n :: ns, vs, hs, us, off, hr, hn => by
   obtain ⟨v, vs', rfl, h1, h2⟩ := hn
   simp only [setL]
   exact repL_setL (off + 1) (repL_set off hr h1) h2
theorem setL_all {p : HV → Bool} : ∀ (vs : List HV) (cs : List HV) (off : Nat), cs.all p = true → vs.all p = true → (setL cs off vs).all p = true
 | [], cs, off, h, _ => h
 | v :: vs, cs, off, h, hv => by
   simp only [List.all_cons, Bool.and_eq_true] at hv
   simp only [setL]
   refine setL_all vs _ _ ?_ hv.2
   rw [List.all_eq_true] at h ⊢
   intro x hx
   rcases List.mem_or_eq_of_mem_set hx with hx | hx
   · exact h x hx
   · subst hx; exact hv.1
theorem fold_set (off : Nat) : ∀ (vs : List Value) (i : Nat) (cs : Array Value), ((vs.zipIdx i).foldl (fun (cs : Array Value) (p : Value × Nat) => cs.setIfInBounds (off + p.2) p.1) cs).toList = setL cs.toList (off + i) vs
 | [], i, cs => by simp [setL]
 | v :: vs, i, cs => by
   simp only [List.zipIdx_cons, List.foldl_cons, setL]
   rw [fold_set off vs (i + 1)]
   simp [Nat.add_assoc]
theorem fold_arr (off : Nat) (vs : Array Value) (cs : Array Value) : (vs.zipIdx.foldl (fun (cs : Array Value) (p : Value × Nat) => cs.setIfInBounds (off + p.2) p.1) cs).toList = setL cs.toList off vs.toList := by
 rw [← Array.foldl_toList]
 simpa using fold_set off vs.toList 0 cs
section
variable {P : Program} {D : List (Nat × List HV)} {ν : Nat → Option Nat} {w0 : World} {K0 : Nat → Nat} {H0 : Heap} {N : Nat} {e : Env} {H : Heap} {a : Act} {w : World} {K μ : Nat → Nat} {o : Oper}
theorem fill_sound (hst : St D ν w0 K0 H0 N e H a w K μ) {T : TypeId} {fs : Array Field} {place : Nat → Option (Nat × Nat)} (hu : P.underlying T = some (.struct fs)) (hp : ∀ i f, fs[i]? = some f → ∀ n, szOf P f.type = some n → place i = some (f.offset, n)) :
   ∀ (ps : List (Nat × Operand)) (qs : List (Nat × Nat × Opd)) (z cs : List HV) (us : Array Value), okParts P ν T ps qs = true → repL ν K w z us.toList → z.all HV.one = true →
     buildv z (qs.map fun p => (p.1, p.2.1, e.hv p.2.2)) = some cs →
     ∃ us', Instr.fill place us (ps.map fun (i, x) => (i, a.eval x)) = some us' ∧ repL ν K w cs us'.toList ∧ cs.all HV.one = true
 | [], [], z, cs, us, _, hr, h1, hb => by
   simp only [List.map_nil, buildv, Option.some.injEq] at hb; subst hb
   exact ⟨us, rfl, hr, h1⟩
 | [], _ :: _, _, _, _, hk, _, _, _ => by simp [okParts] at hk
 | _ :: _, [], _, _, _, hk, _, _, _ => by simp [okParts] at hk
 | (i, x) :: ps, (off, n, y) :: qs, z, cs, us, hk, hr, h1, hb => by
   simp only [okParts, Bool.and_eq_true] at hk
   obtain ⟨⟨hk1, hk2⟩, hk3⟩ := hk
   cases hf : fieldOf P T i with
   | none => simp [hf] at hk1
   | some f =>
     simp only [hf, Bool.and_eq_true, decide_eq_true_eq] at hk1
     obtain ⟨hoff, hn⟩ := hk1
     obtain ⟨fs', hu', hfs⟩ := fieldOf_under hf
     rw [hu] at hu'; simp only [Option.some.injEq, TypeDesc.struct.injEq] at hu'; subst hu'
     have hpl := hp i f hfs n hn
     simp only [List.map_cons] at hb ⊢
     cases hy : e.hv y with
     | none => simp [hy, buildv] at hb
     | some h =>
       simp only [hy, buildv] at hb
       split at hb
       · rename_i hc
         obtain ⟨hc1, hc2, hc3⟩ := hc
         have hv := hv_sound hst hk2 hy
         have hsz := rep_cells_size hc2 hv
         obtain ⟨hcl, hco⟩ := rep_cells hc2 hv
         have hlen := repL_length hr
         subst hoff
         have hns : ¬ ((a.eval x).cells.size ≠ n ∨ f.offset + (a.eval x).cells.size > us.size) := by
           have : us.size = z.length := by simpa using hlen
           rw [hsz, hc1]; omega
         simp only [Instr.fill, hpl]
         rw [if_neg (by simpa using hns)]
         refine fill_sound hst hu hp ps qs _ cs _ hk3 ?_ ?_ hb
         · rw [fold_arr]
           exact repL_setL _ hr hcl
         · exact setL_all _ _ _ h1 hco
       · cases hb
theorem run_mapM_list {α β : Type} (f : α → Sem β) (g : α → β) : ∀ (l : List α), (∀ x ∈ l, (f x).run P w = .ok (g x) w) → (l.mapM f).run P w = .ok (l.map g) w
 | [], _ => by simp
 | x :: l, h => by
   simp only [List.mapM_cons, Sem.run_bind, h x (by simp), Result.andThen_ok, run_mapM_list f g l (fun y hy => h y (by simp [hy])), Sem.run_pure, List.map_cons]
theorem run_mapM_arr {α β : Type} (f : α → Sem β) (g : α → β) (l : Array α) (h : ∀ x ∈ l, (f x).run P w = .ok (g x) w) : (l.mapM f).run P w = .ok (l.map g) w := by
 rw [Array.mapM_eq_mapM_toList]
 simp only [Sem.run_map, run_mapM_list f g l.toList (fun x hx => h x (by simpa using hx)), Result.andThen_ok]
 congr 1
 apply Array.toList_inj.1
 simp
theorem ev_build0 (hst : St D ν w0 K0 H0 N e H a w K μ) {T ps z qs n el zv} (ho : o.op = .build T ps) (hp0 : ps.toList = []) (hq : okParts P ν T ps.toList qs = true) (hz0 : (P.info? T).bind (·.zero) = some zv) (hzq : zeq zv.cells.toList z = true) (hu : P.underlying T = some (.array n el))
   (hel : (szOf P el).isSome = true) {x} (hz : (SOp.build z qs).ev e H = some x) : Calm P ν K μ e a w o x := by
 have hp : ps = #[] := by simpa using hp0
 rw [hp0] at hq
 obtain rfl : qs = [] := by cases qs <;> simp_all [okParts]
 simp only [SOp.ev, List.map_nil, buildv, Option.map_some, Option.some.injEq] at hz; subst hz
 obtain ⟨hr, h1⟩ := zeq_rep (ν := ν) (K := K) (w := w) hzq
 obtain ⟨i, hi, hzi⟩ := Option.bind_eq_some_iff.1 hz0
 obtain ⟨m, hm⟩ := Option.isSome_iff_exists.1 hel
 subst hp
 refine ⟨.agg zv.cells, ?_, ?_, trivial⟩
 · simp [execOp, ho, Instr.build, zeroValue, typeInfo, hi, hzi, run_underlying hu, run_sizeOf hm, Instr.fill]
 · simp only [repE, rep]; exact ⟨zv.cells.toList, by simp, h1, hr⟩
theorem ev_build (hst : St D ν w0 K0 H0 N e H a w K μ) {T ps z qs fs zv} (ho : o.op = .build T ps) (hz0 : (P.info? T).bind (·.zero) = some zv) (hzq : zeq zv.cells.toList z = true) (hu : P.underlying T = some (.struct fs))
   (hall : fs.toList.all (fun f => (szOf P f.type).isSome) = true) (hps : okParts P ν T ps.toList qs = true) {x} (hz : (SOp.build z qs).ev e H = some x) : Calm P ν K μ e a w o x := by
 simp only [SOp.ev] at hz
 cases hb : buildv z (qs.map fun p => (p.1, p.2.1, e.hv p.2.2)) with
 | none => simp [hb] at hz
 | some cs =>
   simp only [hb, Option.map_some, Option.some.injEq] at hz; subst hz
   obtain ⟨hr, h1⟩ := zeq_rep (ν := ν) (K := K) (w := w) hzq
   have hplace : ∀ f ∈ fs, ((do pure (f.offset, ← Go.sizeOf f.type)) : Sem (Nat × Nat)).run P w = .ok (f.offset, (szOf P f.type).getD 0) w := by
     intro f hf
     rw [List.all_eq_true] at hall
     obtain ⟨n, hn⟩ := Option.isSome_iff_exists.1 (hall f (by simpa using hf))
     simp [run_sizeOf hn, hn]
   have hm := run_mapM_arr (P := P) (w := w) (fun f : Field => (do pure (f.offset, ← Go.sizeOf f.type) : Sem (Nat × Nat))) (fun f => (f.offset, (szOf P f.type).getD 0)) fs hplace
   obtain ⟨us', g1, g2, g3⟩ := fill_sound (P := P) hst hu (place := fun i => (fs.map fun f => (f.offset, (szOf P f.type).getD 0))[i]?) (fun i f hf n hn => by simp [hf, hn]) ps.toList qs z cs zv.cells hps hr h1 hb
   obtain ⟨i, hi, hzi⟩ := Option.bind_eq_some_iff.1 hz0
   refine ⟨.agg us', ?_, ?_, trivial⟩
   · simp only [execOp, ho, Instr.build, zeroValue, typeInfo, Sem.run_bind, run_program, Result.andThen_ok, hi, Sem.run_pure, hzi, run_underlying hu, hm, Array.toList_map, g1]
   · simp only [repE, rep]; exact ⟨us'.toList, by simp, g3, g2⟩
end
end Sm
namespace Sm
open Go
theorem rep_one {ν K w h u} (h1 : h.one = true) (hr : rep ν K w h u) : u.oneCell' = true := by
 cases h with
 | v x => simp only [rep] at hr; subst hr; exact h1
 | sl tk sz es => simp only [rep] at hr; obtain ⟨A, cap, vals, rfl, _⟩ := hr; rfl
 | rp cs => simp only [rep] at hr; obtain ⟨b, off, us, rfl, _⟩ := hr; rfl
 | fn g caps => simp only [rep] at hr; obtain ⟨n, us, _, rfl, _⟩ := hr; rfl
 | fm g r => simp only [rep] at hr; obtain ⟨n, us, _, rfl, _⟩ := hr; rfl
 | ag cs => simp [HV.one] at h1
 | tu vs => simp [HV.one] at h1
theorem repL_one {ν K w} : ∀ {hs : List HV} {us : List Value}, repL ν K w hs us → hs.all HV.one = true → ∀ u ∈ us, u.oneCell' = true
 | [], us, h, _ => by simp [repL] at h; subst h; simp
 | g :: hs, us, hr, ha => by
   obtain ⟨u, us', rfl, h1, h2⟩ := hr
   simp only [List.all_cons, Bool.and_eq_true] at ha
   intro x hx
   rcases List.mem_cons.1 hx with hx | hx
   · subst hx; exact rep_one ha.1 h1
   · exact repL_one h2 ha.2 x hx
theorem flat_one {ν K w} : ∀ {es : List HV} {vals : List Value}, repL ν K w es vals → es.all HV.el = true → ∀ u ∈ flat vals, u.oneCell' = true
 | [], us, h, _ => by simp [repL] at h; subst h; simp [flat]
 | g :: es, vals, hr, ha => by
   obtain ⟨u, us', rfl, h1, h2⟩ := hr
   simp only [List.all_cons, Bool.and_eq_true] at ha
   intro x hx
   simp only [flat, List.flatMap_cons, List.mem_append] at hx
   rcases hx with hx | hx
   · obtain ⟨c1, c2⟩ := rep_cells ha.1 h1
     exact repL_one c1 c2 x hx
   · exact flat_one h2 ha.2 x hx
section
variable {P : Program} {D : List (Nat × List HV)} {ν : Nat → Option Nat} {w0 : World} {K0 : Nat → Nat} {H0 : Heap} {N : Nat} {e : Env} {H : Heap} {a : Act} {w : World} {K μ : Nat → Nat} {o : Oper}
def Next' (D : List (Nat × List HV)) (ν : Nat → Option Nat) (w0 : World) (K0 : Nat → Nat) (H0 : Heap) (N : Nat) (a : Act) (dst : Option Nat) (Kc : EV → Env → Heap → Prop) (next : Act → World → Prop) : Prop :=
 ∀ x e' H', Kc x e' H' → ∀ u w' K' μ', St D ν w0 K0 H0 N e' H' a w' K' μ' → repE ν K' w' μ' x u → x.live e' → next (a.put dst u) w'
theorem upon_value {next : Act → World → Prop} {Q : Exit → Act → World → Prop} {u : Value} {w' : World} (h : next (a.put o.dst u) w') : o.upon P a next Q (.ok (.value u) w') := h
theorem setL_take {α : Type} (n : Nat) : ∀ (vs l : List α) (off : Nat), (setL l off vs).take n = setL (l.take n) off vs
 | [], l, off => rfl
 | v :: vs, l, off => by rw [setL, setL, setL_take n vs, List.take_set]
theorem write_obj (hs : hsat ν w K H) {b off : Nat} {cs ns : List HV} {vs : List Value} (hb : H b = some (.obj cs)) (hle : off + vs.length ≤ cs.length) (hv : repL ν K w ns vs) (hn : ns.all HV.one = true) :
   ∃ w', (∀ (i : Nat), i = 0 → (storeCells ⟨b, off, none⟩ vs i).run P w = .ok () w') ∧ Ext (quiet ν) w K H w' K (H.upd b (some (.obj (setL cs off ns)))) ∧ hsat ν w' K (H.upd b (some (.obj (setL cs off ns)))) := by
 obtain ⟨us, T, g1, g2, g3, g4⟩ := hs.res b _ hb
 have hlen := repL_length g3
 have hsz := Array.length_toList (xs := us)
 rw [List.length_take, hsz] at hlen
 have hvl := repL_length hv
 have hst := run_storeCells_at P b off T vs 0 us w g1 (by omega) (repL_one hv hn)
 simp only [Nat.add_zero] at hst
 rw [← setL_eq vs us.toList off (by rw [hsz]; omega)] at hst
 have hg : Grow w K (w.setRow b (setL us.toList off vs).toArray) K := ⟨fun _ => Nat.le_refl _, fun c j hj => cell_setRow_other w b _ _ (by rintro rfl; rw [g2] at hj; omega)⟩
 refine ⟨w.setRow b (setL us.toList off vs).toArray, fun i hi => by subst hi; exact hst, ⟨rfl, rfl, rfl, by simp, fun _ => Nat.le_refl _, hg, fun c hc hH => ⟨setRow_other w b c _ (by rintro rfl; rw [hb] at hH; cases hH), rfl, by rw [Heap.upd]; split <;> simp_all⟩⟩, ⟨fun c r hc => ?_, fun c hc => hs.fresh c (by simpa using hc), hs.tab.grow hg⟩⟩
 by_cases hcb : c = b
 · subst hcb
   simp only [Heap.upd, if_true, Option.some.injEq] at hc; subst hc
   refine ⟨_, T, setRow_heap w c us _ T _ g1, g2, ?_, setL_all _ _ _ g4 hn⟩
   have h9 := (repL_setL off g3 hv).grow hg
   rw [setL_length, List.toList_toArray, setL_take]; exact h9
 · rw [Heap.upd, if_neg hcb] at hc
   exact (hs.res c r hc).move hg (setRow_other w b c _ hcb) rfl
theorem write_box (hst : St D ν w0 K0 H0 N e H a w K μ) {k off : Nat} {cs ns : List HV} {vs : List Value} (hb : e.box k = some cs) (hle : off + vs.length ≤ cs.length) (hv : repL ν K w ns vs) (hn : ns.all HV.one = true) :
   ∃ w', (storeCells ⟨μ k, off, none⟩ vs).run P w = .ok () w' ∧ St D ν w0 K0 H0 N (e.setb k (setL cs off ns)) H a w' K μ := by
 obtain ⟨hB, hH, us, T, g1, g2, g3, g4⟩ := hst.box k cs hb
 have hlen := repL_length g3
 have hvl := repL_length hv
 have hrun := run_storeCells_at P (μ k) off T vs 0 us w g1 (by simp at hlen; omega) (repL_one hv hn)
 simp only [Nat.add_zero] at hrun
 rw [← setL_eq vs us.toList off (by omega)] at hrun
 have hg : Grow w K (w.setRow (μ k) (setL us.toList off vs).toArray) K := ⟨fun _ => Nat.le_refl _, fun c j hj => cell_setRow_other w _ _ _ (by intro hc; simp only at hc; subst hc; rw [g2] at hj; omega)⟩
 have live : ∀ x : EV, x.live e → x.live (e.setb k (setL cs off ns)) := by
   intro x hx
   cases x with
   | h => trivial
   | lp i o =>
     simp only [EV.live, Env.setb, Env.box, upd] at hx ⊢
     split
     · rfl
     · exact hx
 refine ⟨_, hrun, ⟨⟨fun c r hc => (hst.hs.res c r hc).move hg (setRow_other w _ c _ (by rintro rfl; rw [hH] at hc; cases hc)) rfl, fun c hc => hst.hs.fresh c (by simpa using hc), hst.hs.tab.grow hg⟩, hst.sz, hst.df.grow hg,
   fun t x hx => ⟨(hst.slot t x hx).1.grow hg, live x (hst.slot t x hx).2⟩, fun i cs' hi => ?_, fun i j c c' hi hj hij => ?_, ?_⟩⟩
 · simp only [Env.setb, Env.box, upd] at hi
   by_cases hik : k = i
   · subst hik
     simp only [if_true, Option.some.injEq] at hi; subst hi
     exact ⟨hB, hH, _, T, setRow_heap w _ us _ T _ g1, g2, by simpa using (repL_setL off g3 hv).grow hg, setL_all _ _ _ g4 hn⟩
   · rw [if_neg hik] at hi
     obtain ⟨b1, b2, us', T', b3, b4, b5, b6⟩ := hst.box i cs' hi
     refine ⟨b1, b2, us', T', (setRow_other w _ _ _ (fun he => hik (hst.inj i k _ _ hi hb he).symm)).trans b3, b4, b5.grow hg, b6⟩
 · have key : ∀ i c, (e.setb k (setL cs off ns)).box i = some c → ∃ c, e.box i = some c := by
     intro i c hi
     simp only [Env.setb, Env.box, upd] at hi
     by_cases hik : k = i
     · subst hik; exact ⟨_, hb⟩
     · rw [if_neg hik] at hi; exact ⟨_, hi⟩
   obtain ⟨c1, h1⟩ := key i c hi
   obtain ⟨c2, h2⟩ := key j c' hj
   exact hst.inj i j c1 c2 h1 h2 hij
 · refine ⟨hst.ext.os, hst.ext.tape, hst.ext.output, by simpa using hst.ext.size, (fun q => by simpa using hst.ext.drawn q), hst.ext.grow.trans hg, fun c hc hH' => ?_⟩
   obtain ⟨e1, e2, e3⟩ := hst.ext.same c hc hH'
   exact ⟨(setRow_other w _ c _ (by rintro rfl; omega)).trans e1, e2, e3⟩
theorem st_alloc (hst : St D ν w0 K0 H0 N e H a w K μ) {T loc cs z} (ho : o.op = .alloc T) (hz : (P.info? T).bind (·.zero) = some z) (hzq : zeq z.cells.toList cs = true)
   {Kc} {next : Act → World → Prop} {Q} (hs : (SOp.alloc loc cs).step (Spec P ν) e H Kc) (hK : Next' D ν w0 K0 H0 N a o.dst Kc next) : o.upon P a next Q ((execOp a.eval o).run P w) := by
 obtain ⟨hr, h1⟩ := zeq_rep (ν := ν) (K := K) (w := w) hzq
 obtain ⟨i, hi, hzi⟩ := Option.bind_eq_some_iff.1 hz
 have hrun : (execOp a.eval o).run P w = .ok (.value (.pointer (some ⟨w.heap.size, 0, none⟩))) (w.alloc (.cells z.cells T)) := by
   simp [execOp, ho, Instr.alloc, zeroValue, typeInfo, hi, hzi, newVar, newRow]
 rw [hrun]
 apply upon_value
 simp only [SOp.step] at hs
 cases loc with
 | some k =>
   have h2 := hst.newbox z.cells T k cs hs.1 hr h1
   exact hK _ _ _ hs.2 _ _ _ _ h2 (by simp [repE]) (by simp [EV.live, Env.setb, Env.box, upd])
 | none =>
   have h2 := push_obj hst.hs z.cells T cs hr h1
   exact hK _ _ _ (hs w.heap.size (hst.hs.none_new (Nat.le_refl _))) _ _ _ _ (hst.step h2.1 h2.2) (by simp [repE, rep]) trivial
theorem st_box (hst : St D ν w0 K0 H0 N e H a w K μ) {T loc n x x'} (ho : o.op = .box T x) (hx : okOpd ν x x' = true)
   {Kc} {next : Act → World → Prop} {Q} (hs : (SOp.box loc n x').step (Spec P ν) e H Kc) (hK : Next' D ν w0 K0 H0 N a o.dst Kc next) : o.upon P a next Q ((execOp a.eval o).run P w) := by
 simp only [SOp.step] at hs
 split at hs
 · rename_i h hh
   obtain ⟨h1, h2, h3⟩ := hs
   have hv := hv_sound hst hx hh
   obtain ⟨c1, c2⟩ := rep_cells h2 hv
   have hrun : (execOp a.eval o).run P w = .ok (.value (.pointer (some ⟨w.heap.size, 0, none⟩))) (w.alloc (.cells (a.eval x).cells T)) := by
     simp [execOp, ho, Instr.box, newVar, newRow]
   rw [hrun]
   apply upon_value
   split at h3
   · rename_i k
     have h4 := hst.newbox (a.eval x).cells T k h.cells h3.1 c1 c2
     exact hK _ _ _ h3.2 _ _ _ _ h4 (by simp [repE]) (by simp [EV.live, Env.setb, Env.box, upd])
   · have h4 := push_obj hst.hs (a.eval x).cells T h.cells c1 c2
     exact hK _ _ _ (h3 w.heap.size (hst.hs.none_new (Nat.le_refl _))) _ _ _ _ (hst.step h4.1 h4.2) (by simp [repE, rep]) trivial
 · exact hs.elim
theorem st_store (hst : St D ν w0 K0 H0 N e H a w K μ) {T n x y x' y'} (ho : o.op = .store T x y) (hn : szOf P T = some n) (hx : okOpd ν x x' = true) (hy : okOpd ν y y' = true)
   {Kc} {next : Act → World → Prop} {Q} (hs : (SOp.store n x' y').step (Spec P ν) e H Kc) (hK : Next' D ν w0 K0 H0 N a o.dst Kc next) : o.upon P a next Q ((execOp a.eval o).run P w) := by
 simp only [SOp.step] at hs
 split at hs
 · rename_i h hh
   obtain ⟨h1, h2, h3⟩ := hs
   have hv := hv_sound hst hy hh
   obtain ⟨c1, c2⟩ := rep_cells h2 hv
   have hsz := rep_cells_size h2 hv
   have base : ∀ (ad : Addr) (w' : World), a.eval x = .pointer (some ad) → (storeCells ad (a.eval y).cells.toList).run P w = .ok () w' → (execOp a.eval o).run P w = .ok .skip w' := by
     intro ad w' had hw
     simp [execOp, ho, had, Instr.storeAt, Instr.sureAddr, storeVar, run_sizeOf hn, hsz, h1, hw]
   split at h3
   · rename_i b off hop
     have e1 := (opd_sound hst hx hop).1
     simp only [repE, rep] at e1
     split at h3
     · rename_i cs hb
       obtain ⟨hle, hk⟩ := h3
       obtain ⟨w', r1, r2, r3⟩ := write_obj (P := P) hst.hs hb (ns := h.cells) (vs := (a.eval y).cells.toList) (off := off) (by rw [Array.length_toList, hsz, h1]; exact hle) c1 c2
       rw [base _ w' e1 (r1 0 rfl)]
       show next (a.put o.dst Go.undef) w'
       exact hK _ _ _ hk _ _ _ _ (hst.step r2 r3) (by simp [repE, rep, HV.undef]) trivial
     · exact h3.elim
   · rename_i k off hop
     have e1 := (opd_sound hst hx hop).1
     simp only [repE] at e1
     split at h3
     · rename_i cs hb
       obtain ⟨hle, hk⟩ := h3
       obtain ⟨w', r1, r2⟩ := write_box (P := P) hst hb (ns := h.cells) (vs := (a.eval y).cells.toList) (off := off) (by rw [Array.length_toList, hsz, h1]; exact hle) c1 c2
       rw [base _ w' e1 r1]
       show next (a.put o.dst Go.undef) w'
       exact hK _ _ _ hk _ _ _ _ r2 (by simp [repE, rep, HV.undef]) trivial
     · exact h3.elim
   · exact h3.elim
 · exact hs.elim
theorem st_call (hst : St D ν w0 K0 H0 N e H a w K μ) (hbody : ∀ n g, fnat ν n g → ∃ f, P.funcs[n]? = some f ∧ f.body.isNone = false ∧ (f.name == "runtime.NumGoroutine") = false)
   {g : Nat} {n : Nat} {hs : List HV} {us : Array Value} (hres : (execOp a.eval o).run P w = (callFunc n us).run P w) (hg : fnat ν n g) (hr : repL ν K w hs us.toList)
   {Kc : EV → Env → Heap → Prop} {next : Act → World → Prop} {Q} (hsp : Spec P ν g hs H fun h H' => Kc (.h h) e H') (hK : Next' D ν w0 K0 H0 N a o.dst Kc next) : o.upon P a next Q ((execOp a.eval o).run P w) := by
 obtain ⟨f, hf, hb, hn⟩ := hbody n g hg
 have hcall : (callFunc n us).run P w = .ok (.enter n us) w := by
   simp only [callFunc, Sem.run_bind, run_program, Result.andThen_ok, hf, hn, hb, Bool.false_eq_true, if_false, Sem.run_pure]
 rw [hres, hcall, Oper.upon_enter]
 have := hsp n hg w K us.toList hst.hs hr
 simp only [Array.toArray_toList] at this
 refine this.mono ?_
 rintro en w' ⟨u, h, H', K', rfl, h1, h2, h3, h4⟩
 exact hK _ _ _ h4 _ _ _ _ (hst.step h3 h2) h1 trivial
end
end Sm
namespace Sm
open Go
theorem setL_append {α : Type} : ∀ (a cs : List α) (off : Nat) (b : List α), setL (setL cs off a) (off + a.length) b = setL cs off (a ++ b)
 | [], cs, off, b => by simp [setL]
 | x :: a, cs, off, b => by
   simp only [setL, List.cons_append, List.length_cons]
   rw [← setL_append a (cs.set off x) (off + 1) b]
   congr 1; omega
section
variable {P : Program} {D : List (Nat × List HV)} {ν : Nat → Option Nat} {w0 : World} {K0 : Nat → Nat} {H0 : Heap} {N : Nat} {e : Env} {H : Heap} {a : Act} {w : World} {K μ : Nat → Nat} {o : Oper}
theorem fill_seq (hst : St D ν w0 K0 H0 N e H a w K μ) {sz : Nat} : ∀ (ps : List (Nat × Operand)) (qs : List Opd) (k : Nat) (us : Array Value) (hs : List HV), okSeq ν k ps qs = true → e.hvs qs = some hs →
   hs.all HV.el = true → (∀ h ∈ hs, h.ncells = sz) → (k + hs.length) * sz ≤ us.size →
   ∃ us' vals, Instr.fill (fun i => some (i * sz, sz)) us (ps.map fun (i, x) => (i, a.eval x)) = some us' ∧ repL ν K w hs vals ∧ us'.toList = setL us.toList (k * sz) (flat vals)
 | [], [], k, us, hs, _, hh, _, _, _ => by
   simp only [Env.hvs, Option.some.injEq] at hh; subst hh
   exact ⟨us, [], rfl, by simp [repL], by simp [flat, setL]⟩
 | [], _ :: _, _, _, _, hk, _, _, _, _ => by simp [okSeq] at hk
 | _ :: _, [], _, _, _, hk, _, _, _, _ => by simp [okSeq] at hk
 | (i, x) :: ps, y :: qs, k, us, hs, hk, hh, hel, hnc, hle => by
   simp only [okSeq, Bool.and_eq_true, decide_eq_true_eq] at hk
   obtain ⟨⟨rfl, hk2⟩, hk3⟩ := hk
   simp only [Env.hvs] at hh
   split at hh
   · rename_i h hs' h1 h2
     simp only [Option.some.injEq] at hh; subst hh
     simp only [List.all_cons, Bool.and_eq_true] at hel
     have hv := hv_sound hst hk2 h1
     have hsz := rep_cells_size hel.1 hv
     have hn := hnc h (by simp)
     simp only [List.length_cons] at hle
     have hle1 : (i + 1 + hs'.length) * sz ≤ us.size := by rw [show i + 1 + hs'.length = i + (hs'.length + 1) by omega]; exact hle
     have hle2 : i * sz + sz ≤ us.size := by
       have : (i + 1) * sz ≤ (i + 1 + hs'.length) * sz := Nat.mul_le_mul_right _ (by omega)
       rw [Nat.add_mul] at this; omega
     have hc : ¬ ((a.eval x).cells.size ≠ sz ∨ i * sz + (a.eval x).cells.size > us.size) := by rw [hsz, hn]; omega
     simp only [List.map_cons, Instr.fill]
     rw [if_neg (by simpa using hc)]
     have hfold := fold_arr (i * sz) (a.eval x).cells us
     obtain ⟨us', vals, g1, g2, g3⟩ := fill_seq hst ps qs (i + 1) ((a.eval x).cells.zipIdx.foldl (fun (cs : Array Value) (p : Value × Nat) => cs.setIfInBounds (i * sz + p.2) p.1) us) hs' hk3 h2 hel.2 (fun g hg => hnc g (by simp [hg]))
       (by have : ((a.eval x).cells.zipIdx.foldl (fun (cs : Array Value) (p : Value × Nat) => cs.setIfInBounds (i * sz + p.2) p.1) us).size = us.size := by
             rw [← Array.length_toList, hfold, setL_length, Array.length_toList]
           rw [this]; exact hle1)
     refine ⟨us', a.eval x :: vals, g1, ⟨_, _, rfl, hv, g2⟩, ?_⟩
     rw [g3, hfold]
     have hl : (a.eval x).cells.toList.length = sz := by rw [Array.length_toList, hsz, hn]
     have := setL_append (a.eval x).cells.toList us.toList (i * sz) (flat vals)
     rw [hl] at this
     rw [show (i + 1) * sz = i * sz + sz by rw [Nat.add_mul]; omega, this]
     simp [flat]
   · cases hh
theorem st_bslice (hst : St D ν w0 K0 H0 N e H a w K μ) {T len ps sz qs el z} (ho : o.op = .buildSlice T len ps) (hT : Sm.elemOf P T = some el) (hsz : szOf P el = some sz) (h0 : 0 < sz) (hlen : len * sz ≤ 2 ^ 24) (hlq : len = qs.length)
   (hz : (P.info? el).bind (·.zero) = some z) (hzs : z.cells.size = sz) (hps : okSeq ν 0 ps.toList qs = true)
   {Kc} {next : Act → World → Prop} {Q} (hs : (SOp.bslice sz qs).step (Spec P ν) e H Kc) (hK : Next' D ν w0 K0 H0 N a o.dst Kc next) : o.upon P a next Q ((execOp a.eval o).run P w) := by
 have hu := elemOf_under hT
 obtain ⟨i, hi, hzi⟩ := Option.bind_eq_some_iff.1 hz
 simp only [SOp.step] at hs
 split at hs
 · rename_i hs' hh
   obtain ⟨h1, h2, h3⟩ := hs
   have hl' : hs'.length = qs.length := by
     have : ∀ (qs : List Opd) (hs' : List HV), e.hvs qs = some hs' → hs'.length = qs.length := by
       intro qs
       induction qs with
       | nil => intro hs' h; simp [Env.hvs] at h; subst h; rfl
       | cons q qs ih =>
         intro hs' h
         simp only [Env.hvs] at h
         split at h
         · rename_i g gs _ hg
           simp only [Option.some.injEq] at h; subst h
           simp [ih gs hg]
         · cases h
     exact this qs hs' hh
   obtain ⟨us', vals, g1, g2, g3⟩ := fill_seq (sz := sz) hst ps.toList qs 0 ((Array.range (len * sz)).map fun j => z.cells[j % z.cells.size]!) hs' hps hh h1 h2 (by simp; rw [hl', ← hlq]; exact Nat.le_refl _)
   have hfl := flat_length g2 h1 h2
   have hus : us'.toList = flat vals := by
     rw [g3, Nat.zero_mul, setL_eq _ _ _ (by simp [hfl, hl', ← hlq])]
     rw [List.take_zero, List.nil_append, List.drop_eq_nil_of_le (by simp [hfl, hl', ← hlq]), List.append_nil]
   have hrun : (execOp a.eval o).run P w = .ok (.value (.slice (some ⟨w.heap.size, 0, none⟩) len len)) (w.alloc (.cells us' el)) := by
     by_cases hl0 : len * sz = 0
     · have e0 : (Array.range (len * sz)).map (fun j => z.cells[j % z.cells.size]!) = #[] := by rw [hl0]; simp
       rw [e0] at g1
       simp only [execOp, ho, Instr.buildSlice, Sem.run_bind, run_underlying hu, Result.andThen_ok, run_sizeOf hsz, if_neg (show ¬ len * sz > 2 ^ 24 by omega), if_pos hl0, Sem.run_pure, Array.toList_map]
       simp only [hl0, Array.range_zero', List.map_toArray, List.map_nil, g1, newRow, Sem.run_bind, run_newObj_alloc, Result.andThen_ok, Sem.run_pure]
     · simp only [execOp, ho, Instr.buildSlice, Sem.run_bind, run_underlying hu, Result.andThen_ok, run_sizeOf hsz, if_neg (show ¬ len * sz > 2 ^ 24 by omega), if_neg hl0, zeroValue, typeInfo, run_program, hi, hzi, Sem.run_pure, Array.toList_map, g1, newRow, run_newObj_alloc]
   rw [hrun]
   apply upon_value
   have hsize : us'.size = hs'.length * sz := by rw [← Array.length_toList, hus, hfl]
   obtain ⟨x1, x2⟩ := push_commit hst.hs us' el us'.size (Nat.le_refl _)
   refine hK _ _ _ h3 _ _ _ _ (hst.step x1 x2) ?_ trivial
   simp only [repE, rep]
   refine ⟨some ⟨w.heap.size, 0, none⟩, len, vals, by rw [hl', ← hlq], by rw [hl', hlq]; exact Nat.le_refl _, ?_, by simp [tkok, hl', ← hlq], h1, h2, g2.grow x1.grow, .inr ⟨_, 0, rfl, ?_, ?_⟩⟩
   · have : len * 1 ≤ len * sz := Nat.mul_le_mul_left _ h0
     simp only [maxLen]; omega
   · simp [hsize]
   · rw [← hus]; exact cellsAt_block (heap_alloc_new w _)
 · exact hs.elim
theorem grow_rep_new {w' : World} {K' : Nat → Nat} {b n c : Nat} {us : Array Value} {el : TypeId} {sz : Nat} {es : List HV} {vals : List Value} {tk : Tk} (hb : w'.heap[b]? = some (.cells us el (0, 0))) (hel : es.all HV.el = true) (hnc : ∀ h ∈ es, h.ncells = sz)
   (hr : repL ν K' w' es vals) (hus : us.toList.take (es.length * sz) = flat vals) (hK : es.length * sz ≤ K' b) (hn : n = es.length) (hc : es.length ≤ c) (hm : c ≤ maxLen) (htk : tkok tk (some ⟨b, 0, none⟩) es.length c) :
   rep ν K' w' (.sl tk sz es) (.slice (some ⟨b, 0, none⟩) n c) := by
 subst hn
 simp only [rep]
 refine ⟨_, c, vals, rfl, hc, hm, htk, hel, hnc, hr, .inr ⟨b, 0, rfl, by omega, ?_⟩⟩
 rw [← hus]
 exact cellsAt_take (cellsAt_block hb) _
theorem rdv_sound {h : HV} {u : Value} {sz' : Nat} {ys : List HV} (hr : rep ν K w h u) (hh : rdv h = some (sz', ys)) :
   ∃ A c vals, u = .slice A ys.length c ∧ ys.all HV.el = true ∧ (∀ y ∈ ys, y.ncells = sz') ∧ repL ν K w ys vals ∧
     (ys = [] ∨ ∃ b off, A = some ⟨b, off, none⟩ ∧ off + ys.length * sz' ≤ K b ∧ cellsAt w b off (flat vals)) := by
 unfold rdv at hh
 split at hh
 · simp only [Option.some.injEq, Prod.mk.injEq] at hh
   obtain ⟨rfl, rfl⟩ := hh
   simp only [rep] at hr
   obtain ⟨A, cap, vals, g1, g2, g3, g4, g5, g6, g7, g8⟩ := hr
   exact ⟨A, cap, vals, g1, g5, g6, g7, g8⟩
 · simp only [Option.some.injEq, Prod.mk.injEq] at hh
   obtain ⟨rfl, rfl⟩ := hh
   simp only [rep] at hr
   exact ⟨none, 0, [], hr, rfl, by simp, by simp [repL], .inl rfl⟩
 · cases hh
theorem cellsAt_add {b off : Nat} {us : List Value} (h : cellsAt w b off us) : ∀ j v, us[j]? = some v → w.cell? ((⟨b, off, none⟩ : Addr).add j) = some v := by
 intro j v hj; rw [addr_add]; exact h j v hj
theorem run_append_zero {t ty el : TypeId} {i : TypeInfo} (ht : P.underlying t = some (.slice el)) (hi : P.info? el = some i) {A B : Option Addr} {n c c' : Nat} (hnc : n ≤ c) :
   (Builtin.append_ #[t, t] ty #[.slice A n c, .slice B 0 c']).run P w = .ok (.slice A n c) w := by
 have hf : (Builtin.firstCells i.size 0 (.slice B 0 c')).run P w = .ok #[] w := by
   cases B with
   | none => simp [Builtin.firstCells]
   | some b => simp [Builtin.firstCells, loadCells, loadCellsFrom]
 cases A with
 | none => simp [Builtin.append_, run_underlying ht, Go.sizeOf, typeInfo, hi, Builtin.lenOf, hnc, hf]
 | some ad => simp [Builtin.append_, run_underlying ht, Go.sizeOf, typeInfo, hi, Builtin.lenOf, hnc, hf, storeCells]
theorem repL_weak : ∀ {cs' cs : List HV} {us : List Value}, WeakL cs' cs → repL ν K w cs' us → repL ν K w cs us
 | [], [], us, _, h => h
 | [], _ :: _, _, h, _ => h.elim
 | _ :: _, [], _, h, _ => h.elim
 | a :: as, b :: bs, us, h, hr => by
   obtain ⟨u, us', rfl, h1, h2⟩ := hr
   exact ⟨u, us', rfl, h.1 _ _ _ _ h1, repL_weak h.2 h2⟩
theorem hsat_sub {H' : Heap} (hs : hsat ν w K H) (h : H'.sub H) : hsat ν w K H' := by
 refine ⟨fun b r hb => ?_, hs.fresh, hs.tab⟩
 obtain ⟨r', h1, h2⟩ := h b r hb
 have h3 := hs.res b r' h1
 rcases h2 with rfl | h2
 · exact h3
 · cases r' <;> cases r <;> simp only [RWeak] at h2
   obtain ⟨us, T, g1, g2, g3, g4⟩ := h3
   exact ⟨us, T, g1, g2, (by have g9 := repL_weak h2.1 g3; have e9 := (repL_length g3).symm.trans (repL_length g9); rw [e9] at g9; exact g9), h2.2⟩
theorem app_new (hst : St D ν w0 K0 H0 N e H a w K μ) {el : TypeId} {sz c : Nat} {xs ys : List HV} {vx vy : List Value} {z : List Value} (hx : repL ν K w xs vx) (hy : repL ν K w ys vy) (hex : xs.all HV.el = true) (hey : ys.all HV.el = true)
   (hnx : ∀ h ∈ xs, h.ncells = sz) (hny : ∀ h ∈ ys, h.ncells = sz) (hz : z.length = (c - (xs.length + ys.length)) * sz) (hc : xs.length + ys.length ≤ c) (hm : c ≤ maxLen) :
   ∃ K', St D ν w0 K0 H0 N e (H.upd w.heap.size (some (.tip ((xs.length + ys.length) * sz) (c * sz)))) a (w.drew.alloc (.cells (flat vx ++ flat vy ++ z).toArray el)) K' μ ∧
     rep ν K' (w.drew.alloc (.cells (flat vx ++ flat vy ++ z).toArray el)) (.sl (.tip w.heap.size c) sz (xs ++ ys)) (.slice (some ⟨w.heap.size, 0, none⟩) (xs.length + ys.length) c) := by
 have hfx := flat_length hx hex hnx
 have hfy := flat_length hy hey hny
 have hd := hst.draw (n := w.drawn + 1) (Nat.le_succ _)
 have hsz : (flat vx ++ flat vy ++ z).toArray.size = c * sz := by
   simp only [List.size_toArray, List.length_append, hfx, hfy, hz, ← Nat.add_mul]
   congr 1; omega
 obtain ⟨x1, x2⟩ := push_tip (w := w.drew) hd.hs (flat vx ++ flat vy ++ z).toArray el ((xs.length + ys.length) * sz) (c * sz) (by rw [hsz]; exact Nat.mul_le_mul_right _ hc) (by rw [hsz]; exact Nat.le_refl _)
 have hgd : Grow w K w.drew K := ⟨fun _ => Nat.le_refl _, fun _ _ _ => rfl⟩
 refine ⟨_, hd.step x1 x2, ?_⟩
 refine grow_rep_new (us := (flat vx ++ flat vy ++ z).toArray) (el := el) (vals := vx ++ vy) (by simpa using heap_alloc_new w.drew (.cells (flat vx ++ flat vy ++ z).toArray el)) (by rw [List.all_append, hex, hey]; rfl) (fun h hh => (List.mem_append.1 hh).elim (hnx h) (hny h))
   (((repL_append hx hy).grow hgd).grow x1.grow) ?_ (by simp) (by simp) (by simpa using hc) hm (by simp [tkok])
 simp only [List.length_append]
 rw [show (xs.length + ys.length) * sz = (flat vx ++ flat vy).length by rw [List.length_append, hfx, hfy, Nat.add_mul], show flat (vx ++ vy) = flat vx ++ flat vy by simp [flat]]
 exact List.take_left
end
end Sm
namespace Sm
open Go
structure Srs (P : Program) (size : Nat) (x : Value) (n : Nat) (news : List Value) (w : World) : Prop where
 len : ∀ w' : World, (Builtin.lenOf x).run P w' = .ok n w'
 cells : ∀ k, k ≤ n → (Builtin.firstCells size k x).run P w = .ok (news.take (k * size)).toArray w
 cellsD : (Builtin.firstCells size n x).run P w.drew = .ok news.toArray w.drew
 newsLen : news.length = n * size
section
variable {P : Program} {D : List (Nat × List HV)} {ν : Nat → Option Nat} {w0 : World} {K0 : Nat → Nat} {H0 : Heap} {N : Nat} {e : Env} {H : Heap} {a : Act} {w : World} {K μ : Nat → Nat} {o : Oper}
theorem Srs.ofAt {sz m c b off : Nat} {news : List Value} (hl : news.length = m * sz) (hc : cellsAt w b off news) : Srs P sz (.slice (some ⟨b, off, none⟩) m c) m news w := by
 refine ⟨fun _ => rfl, fun k hk => ?_, ?_, hl⟩
 · refine run_firstCells_some w sz k ⟨b, off, none⟩ m c _ ?_ (cellsAt_add (cellsAt_take hc _))
   rw [List.length_take, hl]
   exact Nat.min_eq_left (Nat.mul_le_mul_right _ hk)
 · refine run_firstCells_some w.drew sz m ⟨b, off, none⟩ m c _ hl ?_
   intro j v hj
   have := cellsAt_add hc j v hj
   simpa using this
theorem Srs.ofNil {sz : Nat} {A : Option Addr} {c : Nat} : Srs P sz (.slice A 0 c) 0 [] w := by
 have h0 : ∀ w' : World, (Builtin.firstCells sz 0 (.slice A 0 c)).run P w' = .ok #[] w' := by
   intro w'
   cases A with
   | none => rfl
   | some ad =>
     have := run_firstCells_some (P := P) w' sz 0 ad 0 c [] (by simp) (by simp)
     simpa using this
 refine ⟨fun _ => rfl, fun k hk => ?_, h0 _, by simp⟩
 have : k = 0 := by omega
 subst this
 simpa using h0 w
theorem rep_flat : ∀ {es : List HV} {vals : List Value}, repL ν K w es vals → es.all HV.el = true → repL ν K w (es.flatMap HV.cells) (flat vals) ∧ (es.flatMap HV.cells).all HV.one = true
 | [], vals, h, _ => by simp [repL] at h; subst h; exact ⟨rfl, rfl⟩
 | e :: es, vals, h, ha => by
   simp only [repL] at h
   obtain ⟨u, us', rfl, h1, h2⟩ := h
   simp only [List.all_cons, Bool.and_eq_true] at ha
   obtain ⟨c1, c2⟩ := rep_cells ha.1 h1
   obtain ⟨d1, d2⟩ := rep_flat h2 ha.2
   simp only [List.flatMap_cons, flat] at d1 ⊢
   exact ⟨repL_append c1 d1, by rw [List.all_append, c2, d2]; rfl⟩
theorem flat_cells_len {sz : Nat} : ∀ {es : List HV}, (∀ e ∈ es, e.ncells = sz) → (es.flatMap HV.cells).length = es.length * sz
 | [], _ => by simp
 | e :: es, h => by
   rw [List.flatMap_cons, List.length_append, flat_cells_len (fun x hx => h x (by simp [hx])), cells_len, h e (by simp), List.length_cons, Nat.succ_mul, Nat.add_comm]
theorem rdm_src (hs : hsat ν w K H) {sz m : Nat} {y : HV} {u : Value} {ys : List HV} (hr : rep ν K w y u) (h : rdm H sz y = some (m, ys)) : ∃ news, Srs P sz u m news w ∧ repL ν K w ys news ∧ ys.all HV.one = true := by
 unfold rdm at h
 split at h
 · rename_i tk sz' es
   split at h
   · rename_i he
     subst he
     simp only [Option.some.injEq, Prod.mk.injEq] at h
     obtain ⟨rfl, rfl⟩ := h
     simp only [rep] at hr
     obtain ⟨A, cap, vals, rfl, g2, g3, g4, g5, g6, g7, g8⟩ := hr
     obtain ⟨c1, c2⟩ := rep_flat g7 g5
     rcases g8 with g8 | ⟨b, off, rfl, _, hc⟩
     · subst g8
       simp [repL] at g7; subst g7
       exact ⟨[], Srs.ofNil, by simpa [flat] using c1, c2⟩
     · exact ⟨_, Srs.ofAt (flat_length g7 g5 g6) hc, c1, c2⟩
   · cases h
 · simp only [Option.some.injEq, Prod.mk.injEq] at h
   obtain ⟨rfl, rfl⟩ := h
   simp only [rep] at hr; subst hr
   exact ⟨[], Srs.ofNil, rfl, rfl⟩
 · rename_i b off n c
   split at h
   · rename_i cs hb
     split at h
     · rename_i hle
       simp only [Option.some.injEq, Prod.mk.injEq] at h
       obtain ⟨rfl, rfl⟩ := h
       simp only [rep] at hr; subst hr
       obtain ⟨us, T, r1, r2, r3, r4⟩ := hs.res b _ hb
       have hl := repL_length r3
       have h1 := repL_take (n * sz) (repL_drop off r3)
       refine ⟨((us.toList.take cs.length).drop off).take (n * sz), Srs.ofAt ?_ ?_, h1, all_sub r4 off (n * sz)⟩
       · rw [List.length_take, List.length_drop]; omega
       · have := cellsAt_take (cellsAt_drop (cellsAt_take (cellsAt_block r1) cs.length) off) (n * sz)
         simpa using this
     · cases h
   · cases h
 · rename_i s
   split at h
   · rename_i h1
     subst h1
     simp only [Option.some.injEq, Prod.mk.injEq] at h
     obtain ⟨rfl, rfl⟩ := h
     simp only [rep] at hr; subst hr
     have hlen : (s.data.toList.map fun b : UInt8 => Value.int .u8 b.toNat).length = s.size := by rw [List.length_map, Array.length_toList]; rfl
     have key : ∀ k, k ≤ s.size → ((s.extract 0 k).data.map fun b : UInt8 => Value.int .u8 b.toNat) = ((s.data.toList.map fun b : UInt8 => Value.int .u8 b.toNat).take (k * 1)).toArray := by
       intro k hk
       apply Array.ext'
       rw [Nat.mul_one, Array.toList_map, ByteArray.data_extract, ← List.map_take, Array.toList_extract]
       simp only [List.extract_eq_take_drop, Nat.sub_zero, List.drop_zero]
     refine ⟨s.data.toList.map fun b : UInt8 => Value.int .u8 b.toNat, ⟨fun _ => rfl, fun k hk => ?_, ?_, by rw [hlen]; omega⟩, ?_, ?_⟩
     · simp only [Builtin.firstCells, Sem.run_pure, key k hk]
     · simp only [Builtin.firstCells, Sem.run_pure, key s.size (Nat.le_refl _)]
       rw [List.take_of_length_le (by omega)]
     · rw [bytesHV]
       have : ∀ l : List UInt8, repL ν K w (l.map byteHV) (l.map fun b : UInt8 => Value.int .u8 b.toNat) := by
         intro l
         induction l with
         | nil => rfl
         | cons b l ih => exact ⟨_, _, rfl, rfl, ih⟩
       exact this _
     · rw [bytesHV, List.all_map, List.all_eq_true]; intro b _; rfl
   · cases h
 · cases h
theorem row_new (hst : St D ν w0 K0 H0 N e H a w K μ) {el : TypeId} {cs : List HV} {us z : List Value} (hr : repL ν K w cs us) (h1 : cs.all HV.one = true) (hz1 : ∀ v ∈ z, v.oneCell' = true) :
   St D ν w0 K0 H0 N e (H.upd w.heap.size (some (.obj (cs ++ z.map .v)))) a (w.drew.alloc (.cells (us ++ z).toArray el)) K μ := by
 have hd := hst.draw (n := w.drawn + 1) (Nat.le_succ _)
 have hgd : Grow w K w.drew K := ⟨fun _ => Nat.le_refl _, fun _ _ _ => rfl⟩
 have hz : ∀ (z : List Value) (w : World), repL ν K w (z.map .v) z := by
   intro z w
   induction z with
   | nil => rfl
   | cons v z ih => exact ⟨v, z, rfl, rfl, ih⟩
 obtain ⟨x1, x2⟩ := push_obj (w := w.drew) hd.hs (us ++ z).toArray el (cs ++ z.map .v) (by simpa using repL_append (hr.grow hgd) (hz z _)) (by
   rw [List.all_append, h1, Bool.true_and, List.all_map, List.all_eq_true]
   intro v hv; simpa [HV.one] using hz1 v hv)
 exact hd.step x1 x2
theorem zero_one {z : Value} (hz1 : z.cells.all Value.oneCell' = true) (h0 : 0 < z.cells.size) (k : Nat) : ∀ v ∈ (Builtin.zeroCells z.cells k).toList, v.oneCell' = true := by
 intro v hv
 simp only [Builtin.zeroCells, Array.toList_map, Array.toList_range, List.mem_map, List.mem_range] at hv
 obtain ⟨i, _, rfl⟩ := hv
 have hlt : i % z.cells.size < z.cells.size := Nat.mod_lt _ h0
 rw [getElem!_pos z.cells _ hlt]
 exact (Array.all_eq_true.mp hz1) _ hlt
theorem st_appm (hst : St D ν w0 K0 H0 N e H a w K μ) {x y : Operand} {t el : TypeId} {i : TypeInfo} {z : Value} {sz bytes : Nat} {x' y' : Opd}
   (hu : P.underlying t = some (.slice el)) (hi : P.info? el = some i) (hisz : i.size = sz) (hby : i.bytes = bytes) (h0 : 0 < sz) (hb0 : 0 < bytes) (hz : i.zero = some z) (hzs : z.cells.size = sz) (hz1 : z.cells.all Value.oneCell' = true) (hx : okOpd ν x x' = true) (hy : okOpd ν y y' = true)
   (base : ∀ u w', (Builtin.append_ #[t, t] o.type #[a.eval x, a.eval y]).run P w = .ok u w' → (execOp a.eval o).run P w = .ok (.value u) w')
   {Kc : EV → Env → Heap → Prop} {next : Act → World → Prop} {Q} (hs : match e.hv x', e.hv y' with
   | some x, some y => appK sz bytes x y H fun h H' => Kc (.h h) e H'
   | _, _ => False) (hK : Next' D ν w0 K0 H0 N a o.dst Kc next) : o.upon P a next Q ((execOp a.eval o).run P w) := by
 split at hs
 · rename_i p q h1 h2
   have e1 := hv_sound hst hx h1
   have e2 := hv_sound hst hy h2
   have hbl : ∀ k, k * bytes ≤ 140737488355328 → k ≤ 140737488355328 := fun k hk => Nat.le_trans (Nat.le_mul_of_pos_right k hb0) hk
   unfold appK at hs
   split at hs
   · exact hs.elim
   · rename_i m ys hrd
     obtain ⟨news, src, n1, n2⟩ := rdm_src (P := P) hst.hs e2 hrd
     have hnl : news.take (m * sz) = news := List.take_of_length_le (by rw [src.newsLen]; exact Nat.le_refl _)
     have hcm := src.cells m (Nat.le_refl _)
     rw [hnl] at hcm
     have nothing : ∀ A n c, m = 0 → n ≤ c → a.eval x = .slice A n c → (execOp a.eval o).run P w = .ok (.value (.slice A n c)) w := by
       intro A n c hm hle hA
       subst hm
       refine base _ _ ?_
       rw [hA]
       have hnews : news = [] := List.length_eq_zero_iff.mp (by rw [src.newsLen]; simp)
       subst hnews
       cases A <;> simp [Builtin.append_, run_underlying hu, Go.sizeOf, typeInfo, hi, src.len, hle, hisz, hcm, storeCells]
     have grow : ∀ A n c (cs : List HV) (olds : List Value), a.eval x = .slice A n c → (Builtin.firstCells sz n (.slice A n c)).run P w.drew = .ok olds.toArray w.drew → repL ν K w cs olds → cs.all HV.one = true →
         n ≤ c → c < n + m → newrow H sz bytes (n + m) (cs ++ ys) (fun h H' => Kc (.h h) e H') → o.upon P a next Q ((execOp a.eval o).run P w) := by
       intro A n c cs olds hA hold hco hc1 hle hlt ⟨s1, s2⟩
       have hb1 := hbl _ s1
       have hfit : Builtin.nextslicecap (n + m) c * i.bytes ≤ 281474976710656 := by rw [hby]; exact growslice_fits (by omega) s1
       have hn : ¬ (n + m ≤ c) := by omega
       have h63' : ¬ (9223372036854775807 < ((n : Int) + (m : Int))) := by omega
       have h48' : ¬ (281474976710656 < Builtin.nextslicecap (n + m) c * i.bytes) := by omega
       have hrun : (Builtin.append_ #[t, t] o.type #[.slice A n c, a.eval y]).run P w =
           .ok (.slice (some ⟨w.heap.size, 0, none⟩) (n + m) (grownCap w (n + m) c el)) (w.drew.alloc (.cells ((olds ++ news) ++ (Builtin.zeroCells z.cells (grownCap w (n + m) c el - (n + m))).toList).toArray el)) := by
         simp [Builtin.append_, run_underlying hu, Go.sizeOf, typeInfo, zeroValue, hi, hz, hisz, src.len, hn, h63', h48', Question.forced, src.cellsD, hold, newRow, grownCap]
         congr 2
         apply Array.toList_inj.1
         simp [List.append_assoc]
       rw [base _ _ (by rw [hA]; exact hrun)]
       apply upon_value
       have hge := grownCap_ge w (n + m) c el
       have hmx := grownCap_le_maxLen w (n + m) c el (by simp only [maxLen]; omega)
       have hzl : (Builtin.zeroCells z.cells (grownCap w (n + m) c el - (n + m))).toList.length = (grownCap w (n + m) c el - (n + m)) * sz := by rw [Array.length_toList, size_zeroCells, hzs]
       have hzo := zero_one hz1 (by omega) (grownCap w (n + m) c el - (n + m))
       have hst' := row_new (el := el) (z := (Builtin.zeroCells z.cells (grownCap w (n + m) c el - (n + m))).toList) hst (repL_append hco n1) (by rw [List.all_append, hc1, n2]; rfl) hzo
       refine hK _ _ _ (s2 w.heap.size (grownCap w (n + m) c el) _ (hst.hs.none_new (Nat.le_refl _)) hge hmx (by rw [List.length_map]; exact hzl) ?_) _ _ _ _ hst' (by simp [repE, rep]) trivial
       rw [List.all_map, List.all_eq_true]
       intro v hv; simpa [HV.one] using hzo v hv
     split at hs
     · simp only [rep] at e1
       by_cases hm : m = 0
       · rw [nothing none 0 0 hm (Nat.le_refl _) e1]
         apply upon_value
         exact hK _ _ _ (hs.1 hm) _ _ _ _ hst (by simp [repE, rep]) trivial
       · have h3 := hs.2 hm
         refine grow none 0 0 [] [] e1 (by simpa using run_firstCells_none (P := P) w.drew sz 0 0 0) rfl rfl (Nat.le_refl _) (by omega) ?_
         simpa using h3
     · rename_i sz' xs
       obtain ⟨rfl, s1, s2⟩ := hs
       have e1' := e1
       simp only [rep] at e1
       obtain ⟨A1, cap, valsx, g1, g2, g3, g4, g5, g6, g7, g8⟩ := e1
       simp only [tkok] at g4
       subst g4
       obtain ⟨c1, c2⟩ := rep_flat g7 g5
       by_cases hm : m = 0
       · rw [nothing A1 xs.length xs.length hm (Nat.le_refl _) g1]
         apply upon_value
         exact hK _ _ _ (s1 hm) _ _ _ _ hst (by simp only [repE]; rw [← g1]; exact e1') trivial
       · refine grow A1 xs.length xs.length _ (flat valsx) g1 ?_ c1 c2 (Nat.le_refl _) (by omega) (s2 hm)
         rcases g8 with g8 | ⟨b', off', rfl, _, hcell⟩
         · subst g8; simp [repL] at g7; subst g7
           exact (Srs.ofNil (P := P) (w := w)).cellsD
         · exact (Srs.ofAt (P := P) (flat_length g7 g5 g6) hcell).cellsD
     · rename_i b off n c
       obtain ⟨cs, hb, s1, s2, s3, s4⟩ := hs
       simp only [rep] at e1
       have hnc : n * sz ≤ c * sz := Nat.mul_le_mul_right _ s1
       by_cases hroom : n + m ≤ c
       · have hle : off + n * sz + news.length ≤ cs.length := by
           rw [src.newsLen]
           have := Nat.mul_le_mul_right sz hroom
           rw [Nat.add_mul] at this; omega
         obtain ⟨w', r1, r2, r3⟩ := write_obj (P := P) hst.hs hb (ns := ys) (vs := news) (off := off + n * sz) hle n1 n2
         have hr1 := r1 0 rfl
         have hrun : (Builtin.append_ #[t, t] o.type #[.slice (some ⟨b, off, none⟩) n c, a.eval y]).run P w = .ok (.slice (some ⟨b, off, none⟩) (n + m) c) w' := by
           simp [Builtin.append_, run_underlying hu, Go.sizeOf, typeInfo, hi, hisz, src.len, hroom, hcm, addr_add, hr1]
         rw [base _ _ (by rw [e1]; exact hrun)]
         apply upon_value
         exact hK _ _ _ (s3 hroom) _ _ _ _ (hst.step r2 r3) (by simp [repE, rep]) trivial
       · obtain ⟨us, T, r1, r2, r3, r4⟩ := hst.hs.res b _ hb
         have hl := repL_length r3
         have h3 := repL_take (n * sz) (repL_drop off r3)
         refine grow _ n c _ _ e1 ?_ h3 (all_sub r4 off (n * sz)) s1 (by omega) (s4 (by omega))
         have hca := cellsAt_take (cellsAt_drop (cellsAt_take (cellsAt_block r1) cs.length) off) (n * sz)
         exact (Srs.ofAt (P := P) (w := w) (c := c) (m := n) (by rw [List.length_take, List.length_drop]; omega) (by simpa using hca)).cellsD
     · exact hs.elim
 · exact hs.elim
end
end Sm
namespace Sm
open Go
section
variable {P : Program} {D : List (Nat × List HV)} {ν : Nat → Option Nat} {w0 : World} {K0 : Nat → Nat} {H0 : Heap} {N : Nat} {e : Env} {H : Heap} {a : Act} {w : World} {K μ : Nat → Nat} {o : Oper}
theorem sub_none {H H' : Heap} (h : H'.sub H) {b : Nat} (hb : H b = none) : H' b = none := by
 cases hh : H' b with
 | none => rfl
 | some r => obtain ⟨r', h1, _⟩ := h b r hh; rw [h1] at hb; cases hb
theorem sub_refl (H : Heap) : H.sub H := fun _ r h => ⟨r, h, .inl rfl⟩
theorem Ext.sub {φ : Prop} {w' : World} {K' : Nat → Nat} {H' H'' : Heap} (h : Ext φ w K H w' K' H') (hs : H''.sub H') : Ext φ w K H w' K' H'' :=
 ⟨h.os, h.tape, h.output, h.size, h.drawn, h.grow, fun b hb hH => by obtain ⟨h1, h2, h3⟩ := h.same b hb hH; exact ⟨h1, h2, sub_none hs h3⟩⟩
theorem St.sub (hst : St D ν w0 K0 H0 N e H a w K μ) {H' : Heap} (h : H'.sub H) : St D ν w0 K0 H0 N e H' a w K μ :=
 ⟨hsat_sub hst.hs h, hst.sz, hst.df, hst.slot, fun k cs hk => by obtain ⟨h1, h2, h3⟩ := hst.box k cs hk; exact ⟨h1, sub_none h h2, h3⟩, hst.inj, hst.ext.sub h⟩
theorem St.le (hst : St D ν w0 K0 H0 N e H a w K μ) {e' : Env} (h : e'.le e) : St D ν w0 K0 H0 N e' H a w K μ := by
 refine ⟨hst.hs, hst.sz, hst.df, fun t x hx => ?_, fun k cs hk => ?_, fun i j c c' hi hj => ?_, hst.ext⟩
 · obtain ⟨x', h1, h2⟩ := h.sl t x hx
   obtain ⟨s1, s2⟩ := hst.slot t x' h1
   rcases h2 with rfl | h2
   · refine ⟨s1, ?_⟩
     cases x' with
     | h x => trivial
     | lp k o => exact h.lp t k o hx
   · cases x' <;> cases x <;> simp only [EWeak] at h2
     exact ⟨h2 _ _ _ _ s1, trivial⟩
 · obtain ⟨cs', h1, h2⟩ := h.bx k cs hk
   have h3 := hst.box k cs' h1
   rcases h2 with rfl | h2
   · exact h3
   · obtain ⟨g1, g2, us, T, g3, g4, g5, g6⟩ := h3
     exact ⟨g1, g2, us, T, g3, g4, repL_weak h2.1 g5, h2.2⟩
 · obtain ⟨c1, h1, _⟩ := h.bx i c hi
   obtain ⟨c2, h2, _⟩ := h.bx j c' hj
   exact hst.inj i j c1 c2 h1 h2
theorem run_append_room' {t ty el T : TypeId} {i : TypeInfo} (ht : P.underlying t = some (.slice el)) (hi : P.info? el = some i)
   (g sLen sCap : Nat) (cur : Array Value) (hg : w.heap[g]? = some (.cells cur T (0, 0)))
   (ad : Addr) (m c : Nat) (news : List Value) (hl : news.length = m * i.size) (hnews : ∀ j u, news[j]? = some u → w.cell? (ad.add j) = some u) (h1 : ∀ u ∈ news, u.oneCell' = true)
   (hroom : sLen + m ≤ sCap) (hfit : sLen * i.size + news.length ≤ cur.size) :
   (Builtin.append_ #[t, t] ty #[.slice (some ⟨g, 0, none⟩) sLen sCap, .slice (some ad) m c]).run P w =
     .ok (.slice (some ⟨g, 0, none⟩) (sLen + m) sCap) (w.setRow g (cur.toList.take (sLen * i.size) ++ news ++ cur.toList.drop (sLen * i.size + news.length)).toArray) := by
 have hf := run_firstCells_some (P := P) w i.size m ad m c news hl hnews
 have hst := run_storeCells_at P g (sLen * i.size) T news 0 cur w hg (by simpa using hfit) h1
 simp only [Nat.add_zero] at hst
 simp [Builtin.append_, run_underlying ht, Go.sizeOf, typeInfo, hi, Builtin.lenOf, hroom, hf, addr_add, hst]
theorem app_room (hst : St D ν w0 K0 H0 N e H a w K μ) {b n m c sz : Nat} {us : Array Value} {T : TypeId} {news : List Value} (hb : w.heap[b]? = some (.cells us T (0, 0))) (hH : H b = some (.tip (n * sz) (c * sz))) (hKb : K b = n * sz) (hcs : c * sz ≤ us.size)
   (hl : news.length = m * sz) (hroom : n + m ≤ c) :
   St D ν w0 K0 H0 N e ((H.upd b none).upd b (some (.tip ((n + m) * sz) (c * sz)))) a (w.setRow b (us.toList.take (n * sz) ++ news ++ us.toList.drop (n * sz + news.length)).toArray) (fun x => if x = b then (n + m) * sz else K x) μ ∧
   Grow w K (w.setRow b (us.toList.take (n * sz) ++ news ++ us.toList.drop (n * sz + news.length)).toArray) (fun x => if x = b then (n + m) * sz else K x) := by
 have hle : (n + m) * sz ≤ c * sz := Nat.mul_le_mul_right _ hroom
 have hadd : (n + m) * sz = n * sz + m * sz := Nat.add_mul _ _ _
 have hul : us.toList.length = us.size := Array.length_toList
 have hg : Grow w K (w.setRow b (us.toList.take (n * sz) ++ news ++ us.toList.drop (n * sz + news.length)).toArray) (fun x => if x = b then (n + m) * sz else K x) := by
   refine ⟨fun x => ?_, fun x j hj => ?_⟩
   · by_cases h : x = b
     · subst h; simp only [if_true]; omega
     · simp [h]
   · by_cases h : x = b
     · subst h
       rw [hKb] at hj
       rw [cell_of_row w x j us T (0, 0) hb, cell_of_row _ x j _ T (0, 0) (setRow_heap w x us _ T _ hb)]
       simp only [List.getElem?_toArray]
       rw [List.append_assoc, List.getElem?_append_left (by rw [List.length_take]; omega), List.getElem?_take, if_pos hj]
       simp
     · exact cell_setRow_other w b _ _ h
 have hsz : (us.toList.take (n * sz) ++ news ++ us.toList.drop (n * sz + news.length)).toArray.size = us.size := by
   simp only [List.size_toArray, List.length_append, List.length_take, List.length_drop]; omega
 have hx : Ext (quiet ν) w K H (w.setRow b (us.toList.take (n * sz) ++ news ++ us.toList.drop (n * sz + news.length)).toArray) (fun x => if x = b then (n + m) * sz else K x) ((H.upd b none).upd b (some (.tip ((n + m) * sz) (c * sz)))) := by
   refine ⟨rfl, rfl, rfl, by simp, fun _ => Nat.le_refl _, hg, fun x hx hn => ?_⟩
   have hne : x ≠ b := by rintro rfl; rw [hH] at hn; cases hn
   exact ⟨setRow_other w b x _ hne, by simp [hne], by simp [Heap.upd, hne, hn]⟩
 refine ⟨hst.step hx ⟨fun x r hr => ?_, fun x hx' => ?_, hst.hs.tab.grow hg⟩, hg⟩
 · by_cases h : x = b
   · subst h
     simp only [Heap.upd, if_true, Option.some.injEq] at hr; subst hr
     exact ⟨_, T, setRow_heap w x us _ T _ hb, by simp, by rw [hsz]; omega, by rw [hsz]; exact hcs⟩
   · simp only [Heap.upd, if_neg h] at hr
     exact (hst.hs.res x r hr).move hg (setRow_other w b x _ h) (by simp [h])
 · have := lt_of_heap hb
   simp only [size_setRow] at hx'
   rw [if_neg (by omega)]; exact hst.hs.fresh x hx'
theorem append_types {P : Program} {w : World} {t t' el : TypeId} (hu : P.underlying t = some (.slice el)) (hni : nonInt P t' = true) (ty : TypeId) (x y : Value) :
   (Builtin.append_ #[t, t'] ty #[x, y]).run P w = (Builtin.append_ #[t, t] ty #[x, y]).run P w := by
 unfold nonInt at hni
 cases hd : P.underlying t' with
 | none => rw [hd] at hni; cases hni
 | some d' =>
   rw [hd] at hni
   have h2 : ∀ w, (underlying t').run P w = .ok d' w := run_underlying hd
   have h3 : ∀ w, (underlying t).run P w = .ok (.slice el) w := run_underlying hu
   unfold Builtin.append_
   simp only [show (#[t, t'] : Array TypeId)[0]? = some t from rfl, show (#[t, t'] : Array TypeId)[1]? = some t' from rfl, show (#[t, t] : Array TypeId)[0]? = some t from rfl, show (#[t, t] : Array TypeId)[1]? = some t from rfl, show (#[x, y] : Array Value)[0]? = some x from rfl, show (#[x, y] : Array Value)[1]? = some y from rfl, Sem.run_bind, h3, Result.andThen_ok]
   cases x <;> simp only [Sem.run_bind]
   refine congrArg (fun f => Result.andThen _ f) ?_
   funext sz w'
   simp only [Sem.run_bind, h2, h3, Result.andThen_ok, Sem.run_pure]
   cases d' <;> first | rfl | cases hni
theorem st_app (hst : St D ν w0 K0 H0 N e H a w K μ) {c : Call} {x y : Operand} {t el : TypeId} {i : TypeInfo} {z : Value} {sz bytes : Nat} {x' y' : Opd} (ho : o.op = .call c) (hc : c.callee = .builtin .append) (hargs : c.args.toList = [x, y]) {t' : TypeId} (hts : c.argTypes.toList = [t, t']) (hni : nonInt P t' = true)
   (hT : Sm.elemOf P t = some el) (hi : P.info? el = some i) (hisz : i.size = sz) (hby : i.bytes = bytes) (h0 : 0 < sz) (hb0 : 0 < bytes) (hz : i.zero = some z) (hzs : z.cells.size = sz) (hz1 : z.cells.all Value.oneCell' = true) (hx : okOpd ν x x' = true) (hy : okOpd ν y y' = true)
   {Kc} {next : Act → World → Prop} {Q} (hs : (SOp.app sz bytes x' y').step (Spec P ν) e H Kc) (hK : Next' D ν w0 K0 H0 N a o.dst Kc next) : o.upon P a next Q ((execOp a.eval o).run P w) := by
 have ha := arr2 hargs
 have ht := arr2 hts
 have hu := elemOf_under hT
 have base : ∀ u w', (Builtin.append_ #[t, t] o.type #[a.eval x, a.eval y]).run P w = .ok u w' → (execOp a.eval o).run P w = .ok (.value u) w' := by
   intro u w' h
   have e0 := append_types (P := P) (w := w) hu hni o.type (a.eval x) (a.eval y)
   simp [execOp, ho, resolve, hc, ha, ht, invoke, builtin, e0, h]
 simp only [SOp.step] at hs
 rcases hs with hs | hs
 rotate_left
 · exact st_appm hst hu hi hisz hby h0 hb0 hz hzs hz1 hx hy base hs hK
 have hsrc : ∀ sz' ys, (e.hv y').bind rdv = some (sz', ys) → ∃ A c vals, a.eval y = .slice A ys.length c ∧ ys.all HV.el = true ∧ (∀ y ∈ ys, y.ncells = sz') ∧ repL ν K w ys vals ∧
     (ys = [] ∨ ∃ b off, A = some ⟨b, off, none⟩ ∧ off + ys.length * sz' ≤ K b ∧ cellsAt w b off (flat vals)) := by
   intro sz' ys h
   obtain ⟨h', h1, h2⟩ := Option.bind_eq_some_iff.1 h
   exact rdv_sound (hv_sound hst hy h1) h2
 have hbl : ∀ k, k * bytes ≤ 140737488355328 → k ≤ 140737488355328 := fun k hk => Nat.le_trans (Nat.le_mul_of_pos_right k hb0) hk
 have hzc : ∀ k, (Builtin.zeroCells z.cells k).toList.length = k * sz := fun k => by rw [Array.length_toList, size_zeroCells, hzs]
 split at hs
 ·
   rename_i sz' ys hx1 hy1
   have e1 := hv_sound hst hx hx1
   simp only [rep] at e1
   obtain ⟨A, cc, vals, f1, f2, f3, f4, f5⟩ := hsrc _ _ hy1
   obtain ⟨s1, s2, s3⟩ := hs
   by_cases hys : ys = []
   · have hr := run_append_zero (P := P) (w := w) (ty := o.type) hu hi (A := none) (B := A) (n := 0) (c := 0) (c' := cc) (Nat.le_refl _)
     rw [base _ _ (by rw [e1, f1, hys]; exact hr)]
     apply upon_value
     exact hK _ _ _ (s2 hys) _ _ _ _ hst (by simp [repE, rep]) trivial
   · obtain ⟨s4, s5⟩ := s3 hys
     have hszz := s1 hys; subst hszz
     rcases f5 with f5 | ⟨b, off, rfl, f6, f7⟩
     · exact absurd f5 hys
     · have hfl := flat_length f4 f2 f3
       have hpos : 0 < ys.length := List.length_pos_iff.2 hys
       have hb1 := hbl _ s4
       have hr := run_append_nil (P := P) w t o.type el i z hu hi hz ⟨b, off, none⟩ ys.length cc (flat vals) (by rw [hfl, hisz]) (cellsAt_add f7) hpos (by omega) (by rw [hby]; omega)
       rw [base _ _ (by rw [e1, f1]; exact hr)]
       apply upon_value
       have hge := grownCap_ge w ys.length 0 el
       obtain ⟨K', n1, n2⟩ := app_new (el := el) (sz := sz') (c := grownCap w ys.length 0 el) (xs := []) (vx := []) (z := (Builtin.zeroCells z.cells (grownCap w ys.length 0 el - ys.length)).toList) hst (by simp [repL]) f4 rfl f2 (by simp) f3 (by rw [hzc]; simp) (by simpa using hge)
         (grownCap_le_maxLen w _ 0 el (by simp only [maxLen]; omega))
       simp only [List.length_nil, Nat.zero_add, List.nil_append, flat, List.flatMap_nil] at n1 n2
       have hw : (w.drew.alloc (.cells ((flat vals).toArray ++ Builtin.zeroCells z.cells (grownCap w ys.length 0 el - ys.length)) el)) = w.drew.alloc (.cells ((flat vals) ++ (Builtin.zeroCells z.cells (grownCap w ys.length 0 el - ys.length)).toList).toArray el) := by
         congr 2; apply Array.toList_inj.1; simp
       rw [hw]
       exact hK _ _ _ (s5 w.heap.size _ (hst.hs.none_new (Nat.le_refl _))) _ _ _ _ n1 n2 trivial
 ·
   rename_i sz1 xs sz' ys hx1 hy1
   have e1 := hv_sound hst hx hx1
   obtain ⟨rfl, s1, s2, s3⟩ := hs
   have e1' := e1
   simp only [rep] at e1
   obtain ⟨A1, cap, valsx, g1, g2, g3, g4, g5, g6, g7, g8⟩ := e1
   simp only [tkok] at g4
   subst g4
   obtain ⟨A, cc, vals, f1, f2, f3, f4, f5⟩ := hsrc _ _ hy1
   by_cases hys : ys = []
   · have hr := run_append_zero (P := P) (w := w) (ty := o.type) hu hi (A := A1) (B := A) (n := xs.length) (c := xs.length) (c' := cc) (Nat.le_refl _)
     rw [base _ _ (by rw [g1, f1, hys]; exact hr)]
     apply upon_value
     exact hK _ _ _ (s2 hys) _ _ _ _ hst (by simp only [repE]; rw [← g1]; exact e1') trivial
   · obtain ⟨s4, s5⟩ := s3 hys
     have hszz := s1 hys; subst hszz
     rcases f5 with f5 | ⟨b, off, rfl, f6, f7⟩
     · exact absurd f5 hys
     · have hfl := flat_length f4 f2 f3
       have hflx := flat_length g7 g5 g6
       have hpos : 0 < ys.length := List.length_pos_iff.2 hys
       have hb1 := hbl _ s4
       cases A1 with
       | none =>
         have hxs : xs = [] := by
           rcases g8 with g8 | ⟨_, _, hA, _⟩
           · exact g8
           · cases hA
         subst hxs
         simp only [List.length_nil, Nat.zero_add] at s4 g1
         have hr := run_append_nil (P := P) w t o.type el i z hu hi hz ⟨b, off, none⟩ ys.length cc (flat vals) (by rw [hfl, hisz]) (cellsAt_add f7) hpos (by omega) (by rw [hby]; omega)
         rw [base _ _ (by rw [g1, f1]; exact hr)]
         apply upon_value
         have hge := grownCap_ge w ys.length 0 el
         obtain ⟨K', n1, n2⟩ := app_new (el := el) (sz := sz') (c := grownCap w ys.length 0 el) (xs := []) (vx := []) (z := (Builtin.zeroCells z.cells (grownCap w ys.length 0 el - ys.length)).toList) hst (by simp [repL]) f4 rfl f2 (by simp) f3 (by rw [hzc]; simp) (by simpa using hge)
           (grownCap_le_maxLen w _ 0 el (by simp only [maxLen]; omega))
         have hw : (w.drew.alloc (.cells ((flat vals).toArray ++ Builtin.zeroCells z.cells (grownCap w ys.length 0 el - ys.length)) el)) = w.drew.alloc (.cells (flat [] ++ (flat vals) ++ (Builtin.zeroCells z.cells (grownCap w ys.length 0 el - ys.length)).toList).toArray el) := by
           congr 2; apply Array.toList_inj.1; simp [flat]
         rw [hw]
         have hk := s5 w.heap.size (grownCap w ys.length 0 el) (hst.hs.none_new (Nat.le_refl _))
         refine hK _ _ _ hk _ _ _ _ n1 ?_ trivial
         simp only [repE]
         simpa using n2
       | some ad =>
         have holds : ∀ j u, (flat valsx)[j]? = some u → w.cell? (ad.add j) = some u := by
           rcases g8 with g8 | ⟨b', off', hA, _, hcell⟩
           · subst g8; simp [repL] at g7; subst g7; simp [flat]
           · simp only [Option.some.injEq] at hA; subst hA; exact cellsAt_add hcell
         have hr := run_append_grow (P := P) w t o.type el i z hu hi hz ad xs.length xs.length (flat valsx) (by rw [hflx, hisz]) holds ⟨b, off, none⟩ ys.length cc (flat vals) (by rw [hfl, hisz]) (cellsAt_add f7) (by omega) (by omega) (by
           rw [hby]; exact growslice_fits (by omega) s4)
         rw [base _ _ (by rw [g1, f1]; exact hr)]
         apply upon_value
         have hge := grownCap_ge w (xs.length + ys.length) xs.length el
         obtain ⟨K', n1, n2⟩ := app_new (el := el) (sz := sz') (c := grownCap w (xs.length + ys.length) xs.length el) (z := (Builtin.zeroCells z.cells (grownCap w (xs.length + ys.length) xs.length el - (xs.length + ys.length))).toList) hst g7 f4 g5 f2 g6 f3 (by rw [hzc]) hge
           (grownCap_le_maxLen w _ _ el (by simp only [maxLen]; omega))
         have hw : (w.drew.alloc (.cells ((flat valsx).toArray ++ (flat vals).toArray ++ Builtin.zeroCells z.cells (grownCap w (xs.length + ys.length) xs.length el - (xs.length + ys.length))) el)) = w.drew.alloc (.cells (flat valsx ++ (flat vals) ++ (Builtin.zeroCells z.cells (grownCap w (xs.length + ys.length) xs.length el - (xs.length + ys.length))).toList).toArray el) := by
           congr 2; apply Array.toList_inj.1; simp
         rw [hw]
         exact hK _ _ _ (s5 w.heap.size _ (hst.hs.none_new (Nat.le_refl _))) _ _ _ _ n1 n2 trivial
 ·
   rename_i b c1 sz1 xs sz' ys hx1 hy1
   have e1 := hv_sound hst hx hx1
   obtain ⟨rfl, s1, s2, s3, s4⟩ := hs
   have e1' := e1
   simp only [rep] at e1
   obtain ⟨A1, cap, valsx, g1, g2, g3, g4, g5, g6, g7, g8⟩ := e1
   simp only [tkok] at g4
   obtain ⟨rfl, rfl⟩ := g4
   obtain ⟨A, cc, vals, f1, f2, f3, f4, f5⟩ := hsrc _ _ hy1
   obtain ⟨us, T, t1, t2, t3, t4⟩ := hst.hs.res b _ s2
   have hflx := flat_length g7 g5 g6
   have hcellx : cellsAt w b 0 (flat valsx) := by
     rcases g8 with g8 | ⟨b', off', hA, _, hcell⟩
     · subst g8; simp [repL] at g7; subst g7; intro j x hj; simp [flat] at hj
     · simp only [Option.some.injEq, Addr.mk.injEq, and_true] at hA
       obtain ⟨rfl, rfl⟩ := hA; exact hcell
   by_cases hys : ys = []
   · subst hys
     have hr := run_append_zero (P := P) (w := w) (ty := o.type) hu hi (A := some ⟨b, 0, none⟩) (B := A) (n := xs.length) (c := cap) (c' := cc) g2
     rw [base _ _ (by rw [g1, f1]; exact hr)]
     apply upon_value
     have hk := s4 b cap (.inl rfl)
     have hH : (H.upd b none).upd b (some (.tip ((xs.length + 0) * sz1) (cap * sz1))) = H := by
       funext q
       simp only [Heap.upd]
       split
       · rename_i hq; subst hq; rw [s2]; simp
       · rfl
     simp only [List.length_nil, List.append_nil] at hk
     rw [hH] at hk
     exact hK _ _ _ hk _ _ _ _ hst (by simp only [repE]; rw [← g1]; exact e1') trivial
   · have hszz := s1 hys; subst hszz
     rcases f5 with f5 | ⟨b2, off, rfl, f6, f7⟩
     · exact absurd f5 hys
     · have hfl := flat_length f4 f2 f3
       have hpos : 0 < ys.length := List.length_pos_iff.2 hys
       have hb1 := hbl _ s3
       by_cases hroom : xs.length + ys.length ≤ cap
       · have hle : (xs.length + ys.length) * sz' ≤ cap * sz' := Nat.mul_le_mul_right _ hroom
         have hr := run_append_room' (P := P) (ty := o.type) hu hi b xs.length cap us t1 ⟨b2, off, none⟩ ys.length cc (flat vals) (by rw [hfl, hisz]) (cellsAt_add f7) (flat_one f4 f2) hroom (by rw [hfl, hisz]; rw [Nat.add_mul] at hle; omega)
         rw [hisz] at hr
         rw [base _ _ (by rw [g1, f1]; exact hr)]
         apply upon_value
         obtain ⟨r1, r2⟩ := app_room (sz := sz') hst t1 s2 t2 t4 hfl hroom
         refine hK _ _ _ (s4 b cap (.inl rfl)) _ _ _ _ r1 ?_ trivial
         simp only [repE]
         refine grow_rep_new (vals := valsx ++ vals) (setRow_heap w b us _ T _ t1) (by rw [List.all_append, g5, f2]; rfl) (fun h hh => (List.mem_append.1 hh).elim (g6 h) (f3 h)) ((repL_append g7 f4).grow r2) ?_ (by simp) (by simp) (by simpa using hroom) g3 (by simp [tkok])
         have hvx : us.toList.take (xs.length * sz') = flat valsx := by
           apply List.ext_getElem?
           intro j
           rcases Nat.lt_or_ge j (xs.length * sz') with hj | hj
           · have h5 : (flat valsx)[j]? = some ((flat valsx)[j]'(by omega)) := List.getElem?_eq_getElem (by omega)
             have h6 := hcellx j _ h5
             rw [cell_of_row w b _ us T (0, 0) t1] at h6
             simp only [Nat.zero_add] at h6
             rw [List.getElem?_take, if_pos hj, h5]
             simpa using h6
           · rw [List.getElem?_eq_none (by rw [List.length_take]; omega), List.getElem?_eq_none (by omega)]
         rw [hvx]
         simp only [List.length_append]
         rw [show (xs.length + ys.length) * sz' = (flat valsx ++ flat vals).length by rw [List.length_append, hflx, hfl, Nat.add_mul], show flat (valsx ++ vals) = flat valsx ++ flat vals by simp [flat]]
         exact List.take_left
       · have hr := run_append_grow (P := P) w t o.type el i z hu hi hz ⟨b, 0, none⟩ xs.length cap (flat valsx) (by rw [hflx, hisz]) (cellsAt_add hcellx) ⟨b2, off, none⟩ ys.length cc (flat vals) (by rw [hfl, hisz]) (cellsAt_add f7) (by omega) (by omega) (by
           rw [hby]; exact growslice_fits (by omega) s3)
         rw [base _ _ (by rw [g1, f1]; exact hr)]
         apply upon_value
         have hge := grownCap_ge w (xs.length + ys.length) cap el
         obtain ⟨K', n1, n2⟩ := app_new (el := el) (sz := sz') (c := grownCap w (xs.length + ys.length) cap el) (z := (Builtin.zeroCells z.cells (grownCap w (xs.length + ys.length) cap el - (xs.length + ys.length))).toList) hst g7 f4 g5 f2 g6 f3 (by rw [hzc]) hge
           (grownCap_le_maxLen w _ _ el (by simp only [maxLen]; omega))
         have hw : (w.drew.alloc (.cells ((flat valsx).toArray ++ (flat vals).toArray ++ Builtin.zeroCells z.cells (grownCap w (xs.length + ys.length) cap el - (xs.length + ys.length))) el)) = w.drew.alloc (.cells (flat valsx ++ (flat vals) ++ (Builtin.zeroCells z.cells (grownCap w (xs.length + ys.length) cap el - (xs.length + ys.length))).toList).toArray el) := by
           congr 2; apply Array.toList_inj.1; simp
         rw [hw]
         refine hK _ _ _ (s4 w.heap.size _ (.inr (hst.hs.none_new (Nat.le_refl _)))) _ _ _ _ (n1.sub ?_) n2 trivial
         intro q r hq
         refine ⟨r, ?_, .inl rfl⟩
         simp only [Heap.upd] at hq ⊢
         split at hq
         · rename_i hq1; rw [if_pos hq1]; exact hq
         · rename_i hq1
           rw [if_neg hq1]
           split at hq
           · cases hq
           · exact hq
 · exact hs.elim
end
end Sm
