/-
  A layer of one's own: text H.
-/
import Derived.Test.YtkephaeefknlbaaSmG
import Derived.Laws.StructEq
set_option linter.unusedVariables false
set_option linter.unusedSimpArgs false
set_option linter.unnecessarySimpa false
namespace Sm
open Go

theorem flat_drop {ν K w sz} : ∀ (l : Nat) {es : List HV} {vals : List Value}, repL ν K w es vals → es.all HV.el = true → (∀ e ∈ es, e.ncells = sz) → flat (vals.drop l) = (flat vals).drop (l * sz)
  | 0, es, vals, _, _, _ => by simp
  | l + 1, [], vals, h, _, _ => by simp [repL] at h; subst h; simp [flat]
  | l + 1, g :: es, vals, hr, ha, hs => by
    obtain ⟨u, us', rfl, h1, h2⟩ := hr
    simp only [List.all_cons, Bool.and_eq_true] at ha
    have hsz := rep_cells_size ha.1 h1
    have hg := hs g (by simp)
    have ih := flat_drop l h2 ha.2 (fun e he => hs e (by simp [he]))
    have hl : u.cells.toList.length = sz := by rw [Array.length_toList, hsz, hg]
    simp only [List.drop_succ_cons, ih]
    simp only [flat, List.flatMap_cons]
    have e0 : u.cells.toList.drop ((l + 1) * sz) = [] := List.drop_eq_nil_of_le (by rw [hl, Nat.add_mul]; omega)
    rw [List.drop_append, e0, hl]
    simp [show (l + 1) * sz - sz = l * sz by rw [Nat.add_mul]; omega]
theorem flat_take {ν K w sz} : ∀ (l : Nat) {es : List HV} {vals : List Value}, repL ν K w es vals → es.all HV.el = true → (∀ e ∈ es, e.ncells = sz) → flat (vals.take l) = (flat vals).take (l * sz)
  | 0, es, vals, _, _, _ => by simp [flat]
  | l + 1, [], vals, h, _, _ => by simp [repL] at h; subst h; simp [flat]
  | l + 1, g :: es, vals, hr, ha, hs => by
    obtain ⟨u, us', rfl, h1, h2⟩ := hr
    simp only [List.all_cons, Bool.and_eq_true] at ha
    have hsz := rep_cells_size ha.1 h1
    have hg := hs g (by simp)
    have ih := flat_take l h2 ha.2 (fun e he => hs e (by simp [he]))
    have hl : u.cells.toList.length = sz := by rw [Array.length_toList, hsz, hg]
    simp only [flat, List.take_succ_cons, List.flatMap_cons] at ih ⊢
    have e0 : u.cells.toList.take ((l + 1) * sz) = u.cells.toList := List.take_of_length_le (by rw [hl, Nat.add_mul]; omega)
    rw [ih, List.take_append, e0, hl]
    simp [show (l + 1) * sz - sz = l * sz by rw [Nat.add_mul]; omega]

theorem all_sub {p : HV → Bool} {es : List HV} (h : es.all p = true) (l n : Nat) : ((es.drop l).take n).all p = true := by
  rw [List.all_eq_true] at h ⊢
  exact fun z hz => h z (List.mem_of_mem_drop (List.mem_of_mem_take hz))

/-- A piece of a slice. -/
theorem rep_piece {ν K w sz} {tk tk' : Tk} {es : List HV} {A : Option Addr} {cap : Nat} {l h cap' : Nat} {A' : Option Addr} (hr : rep ν K w (.sl tk sz es) (.slice A es.length cap)) (hlh : l ≤ h) (hh : h ≤ es.length)
    (hA : l < h → A' = A.map fun x => x.add (l * sz)) (hc : h - l ≤ cap') (hm : cap' ≤ cap) (htk : tkok tk' A' (h - l) cap') :
    rep ν K w (.sl tk' sz ((es.drop l).take (h - l))) (.slice A' (h - l) cap') := by
  simp only [rep] at hr ⊢
  obtain ⟨A1, cap1, vals, g1, g2, g3, g4, g5, g6, g7, g8⟩ := hr
  simp only [Value.slice.injEq] at g1
  obtain ⟨rfl, _, rfl⟩ := g1
  have hlen : ((es.drop l).take (h - l)).length = h - l := by rw [List.length_take, List.length_drop]; omega
  refine ⟨A', cap', (vals.drop l).take (h - l), by rw [hlen], by omega, by omega, by rw [hlen]; exact htk, all_sub g5 l _, fun e he => g6 e (List.mem_of_mem_drop (List.mem_of_mem_take he)), repL_take _ (repL_drop _ g7), ?_⟩
  by_cases hlt : l < h
  · right
    rcases g8 with g8 | ⟨b, off, hA1, hK, hcell⟩
    · subst g8; simp at hh; omega
    · subst hA1
      refine ⟨b, off + l * sz, by rw [hA hlt]; simp [addr_add], ?_, ?_⟩
      · rw [hlen, Nat.add_assoc, ← Nat.add_mul, show l + (h - l) = h by omega]
        exact Nat.le_trans (Nat.add_le_add_left (Nat.mul_le_mul_right _ hh) _) hK
      · rw [flat_take _ (repL_drop l g7) (by rw [List.all_eq_true] at g5 ⊢; exact fun z hz => g5 z (List.mem_of_mem_drop hz)) (fun e he => g6 e (List.mem_of_mem_drop he)), flat_drop l g7 g5 g6]
        exact cellsAt_take (cellsAt_drop hcell _) _
  · left
    rw [show h - l = 0 by omega]; simp

section
variable {P : Program} {ν : Nat → Option Nat} {w0 : World} {K0 : Nat → Nat} {H0 : Heap} {N : Nat} {e : Env} {H : Heap} {a : Act} {w : World} {K μ : Nat → Nat} {o : Oper}

theorem run_bounds3 {lo hi : Option Value} {mx : Value} {len cap : Nat} {l h : Int} {k : IntKind} (hl : match lo with | some (.int _ n) => n = l | none => l = 0 | _ => False)
    (hh : match hi with | some (.int _ n) => n = h | none => False | _ => False) (h0 : 0 ≤ l) (h1 : l ≤ h) (h2 : h ≤ cap) :
    (Instr.sliceBounds true len cap lo hi (some (.int k h))).run P w = .ok (l.toNat, h.toNat, h.toNat) w := by
  have hb : ∀ (k : IntKind) (n : Int) (y : Nat) (code : BoundsCode), 0 ≤ n → n ≤ y → (Instr.sliceBound (.int k n) y code).run P w = .ok n.toNat w := fun k n y c a b => run_boundsOk k n y c a b
  unfold Instr.sliceBounds
  rcases hi with _ | hi
  · exact hh.elim
  cases hi <;> simp only at hh
  rename_i k1 n1
  subst hh
  have hb0 := fun c => hb k n1 cap c (by omega) h2
  have hb1 := fun c => hb k1 n1 n1.toNat c (by omega) (by omega)
  rcases lo with _ | lo
  · simp only at hl; subst hl; simp [hb0, hb1]
  · cases lo <;> simp only at hl
    rename_i k2 n2
    subst hl
    have hb2 := fun c => hb k2 n2 n1.toNat c h0 (by omega)
    simp [hb0, hb1, hb2]

theorem ev_slc (hst : St ν w0 K0 H0 N e H a w K μ) {T x lo hi mx x' lo' hi' mx' el sz} (ho : o.op = .slice T x lo hi mx) (hT : Sm.elemOf P T = some el) (hsz : szOf P el = some sz) (hx : okOpd ν x x' = true)
    (hlo : okOpd? ν lo lo' = true) (hhi : okOpd? ν hi hi' = true) (hmx : okOpd? ν mx mx' = true) (hmh : (mx.isNone || hi.isSome) = true)
    {z} (hz : (SOp.slc sz x' lo' hi' mx').ev e H = some z) : Calm P ν K μ e a w o z := by
  have hu := elemOf_under hT
  have base : ∀ A len cap l h m, a.eval x = .slice A len cap → (Instr.sliceBounds true len cap (lo.map a.eval) (hi.map a.eval) (mx.map a.eval)).run P w = .ok (l, h, m) w →
      (execOp a.eval o).run P w = .ok (.value (.slice (if m = l then A else A.map (·.add (l * sz))) (h - l) (m - l))) w := by
    intro A len cap l h m h1 h2
    simp [execOp, ho, h1, Instr.sliceAt, Instr.slice, run_underlying hu, h2, run_sizeOf hsz]
  simp only [SOp.ev] at hz
  split at hz
  · rename_i h1
    have e1 := hv_sound hst hx h1
    simp only [rep] at e1
    split at hz
    · rename_i l h m hl hh hm
      have b1 := bnd_sound hst hlo hl
      have b2 := bnd_sound hst hhi hh
      have b3 := bnd_sound hst hmx hm
      split at hz
      · rename_i hc
        obtain ⟨rfl, rfl, rfl⟩ := hc
        simp only [Option.some.injEq] at hz; subst hz
        have hr : (Instr.sliceBounds true 0 0 (lo.map a.eval) (hi.map a.eval) (mx.map a.eval)).run P w = .ok (0, 0, 0) w := by
          rcases mx with _ | mx
          · have := run_bounds2 (P := P) (w := w) (isS := true) (len := 0) (cap := 0) b1 b2 (by omega) (by omega) (by simp) (by omega)
            simpa using this
          · cases hi with
            | none => simp at hmh
            | some hi =>
              cases hev : a.eval mx <;> simp only [Option.map_some, hev] at b3
              rename_i k n; subst b3
              have := run_bounds3 (P := P) (w := w) (mx := a.eval mx) (len := 0) (cap := 0) (l := 0) (h := 0) (k := k) (lo := lo.map a.eval) (hi := some (a.eval hi)) b1 (by
                cases hev2 : a.eval hi <;> simp only [Option.map_some, hev2] at b2 ⊢
                exact b2) (by omega) (by omega) (by simp)
              simpa [hev] using this
        exact ⟨_, base _ _ _ _ _ _ e1 hr, by simp [repE, rep], trivial⟩
      · cases hz
    · cases hz
  · rename_i tk sz' es h1
    have e1 := hv_sound hst hx h1
    have e1' := e1
    simp only [rep] at e1
    obtain ⟨A, cap, vals, g1, g2, g3, g4, g5, g6, g7, g8⟩ := e1
    rw [g1] at e1'
    split at hz
    · rename_i l h hl hh
      have b1 := bnd_sound hst hlo hl
      have b2 := bnd_sound hst hhi hh
      split at hz
      · rename_i hc
        obtain ⟨rfl, h0, hlh, hhl⟩ := hc
        split at hz
        · rename_i hmn
          simp only [Option.some.injEq] at hz; subst hz
          have hmx0 : mx = none := by cases mx <;> simp_all [okOpd?]
          subst hmx0
          have hr := run_bounds2 (P := P) (w := w) (isS := true) (len := es.length) (cap := cap) b1 b2 h0 hlh (by omega) g2
          refine ⟨_, base _ _ _ _ _ _ g1 hr, ?_, trivial⟩
          simp only [repE]
          refine rep_piece e1' (by omega) (by omega) (fun hlt => ?_) (by omega) (by omega) ?_
          · rw [if_neg (by omega)]
          · by_cases hall : h = es.length ∧ l = 0
            · obtain ⟨rfl, rfl⟩ := hall
              simp only [and_self, if_true]
              cases tk with
              | no => trivial
              | tip b c =>
                simp only [tkok] at g4 ⊢
                obtain ⟨rfl, rfl⟩ := g4
                split <;> simp [addr_add]
              | full => simpa [tkok] using g4
            · rw [if_neg hall]; trivial
        · rename_i m hmn
          split at hz
          · rename_i km mm hm
            split at hz
            · rename_i hmh'
              subst hmh'
              simp only [Option.some.injEq] at hz; subst hz
              cases mx with
              | none => simp [okOpd?] at hmx
              | some mx =>
                cases hi with
                | none => simp at hmh
                | some hi =>
                  simp only [okOpd?] at hmx
                  have e3 := hv_sound hst hmx hm
                  simp only [rep] at e3
                  have hr := run_bounds3 (P := P) (w := w) (mx := a.eval mx) (len := es.length) (cap := cap) (l := l) (h := mm) (k := km) (lo := lo.map a.eval) (hi := some (a.eval hi)) b1 (by
                    cases hev2 : a.eval hi <;> simp only [Option.map_some, hev2] at b2 ⊢
                    exact b2) h0 hlh (by omega)
                  refine ⟨_, base _ _ _ _ _ _ g1 (by simpa [e3] using hr), ?_, trivial⟩
                  simp only [repE]
                  refine rep_piece e1' (by omega) (by omega) (fun hlt => ?_) (by omega) (by omega) rfl
                  rw [if_neg (by omega)]
            · cases hz
          · cases hz
      · cases hz
    · cases hz
  · cases hz

theorem eqL_split : ∀ {k1 k2 : List Lf} {xs ys : List HV} {r : Bool}, eqL (k1 ++ k2) xs ys = some r → ∃ r1 r2, eqL k1 (xs.take k1.length) (ys.take k1.length) = some r1 ∧ eqL k2 (xs.drop k1.length) (ys.drop k1.length) = some r2 ∧ r = (r1 && r2)
  | [], k2, xs, ys, r, h => ⟨true, r, rfl, h, by simp⟩
  | k :: k1, k2, [], ys, r, h => by simp [eqL] at h
  | k :: k1, k2, _ :: _, [], r, h => by simp [eqL] at h
  | k :: k1, k2, x :: xs, y :: ys, r, h => by
    simp only [List.cons_append, eqL] at h
    split at h
    · rename_i p q h1 h2
      simp only [Option.some.injEq] at h; subst h
      obtain ⟨r1, r2, g1, g2, rfl⟩ := eqL_split h2
      exact ⟨p && r1, r2, by simp only [List.length_cons, List.take_succ_cons, eqL, h1, g1], by simpa using g2, by rw [Bool.and_assoc]⟩
    · cases h
theorem eqL_len : ∀ {ks : List Lf} {xs ys : List HV} {r}, eqL ks xs ys = some r → xs.length = ks.length ∧ ys.length = ks.length
  | [], [], [], _, _ => by simp
  | [], _ :: _, _, _, h => by simp [eqL] at h
  | [], [], _ :: _, _, h => by simp [eqL] at h
  | _ :: _, [], _, _, h => by simp [eqL] at h
  | _ :: _, _ :: _, [], _, h => by simp [eqL] at h
  | k :: ks, x :: xs, y :: ys, r, h => by
    simp only [eqL] at h
    split at h
    · rename_i h2; have := eqL_len h2; simp [this.1, this.2]
    · cases h

/-- The value of a type that some cells make. -/
def valOf (agg : Bool) (us : List Value) : Value := if agg then .agg us.toArray else (us[0]?).getD Go.undef

theorem flatT_sz {d : Nat} {t : TypeId} {ks : List Lf} (h : flatT P d t = some ks) : ∃ agg, aggOf P t = some agg ∧ szOf P t = some ks.length := by
  cases d with
  | zero => simp [flatT] at h
  | succ d =>
    simp only [flatT] at h
    split at h
    · rename_i hu; split at h
      · rename_i hs; simp only [Option.some.injEq] at h; subst h; exact ⟨false, by simp [aggOf, hu], hs⟩
      · cases h
    · rename_i hu; split at h
      · rename_i hs; simp only [Option.some.injEq] at h; subst h; exact ⟨false, by simp [aggOf, hu], hs⟩
      · cases h
    · rename_i hu; split at h
      · rename_i hs; simp only [Option.some.injEq] at h; subst h; exact ⟨false, by simp [aggOf, hu], hs⟩
      · cases h
    · rename_i fs hu
      split at h
      · split at h
        · split at h
          · rename_i ks' _ hs; simp only [Option.some.injEq] at h; subst h; exact ⟨true, by simp [aggOf, hu], hs⟩
          · cases h
        · cases h
      · cases h
    · rename_i n e hu
      split at h
      · split at h
        · rename_i ks' _ hs; simp only [Option.some.injEq] at h; subst h; exact ⟨true, by simp [aggOf, hu], by rw [hs]; simp⟩
        · cases h
      · cases h
    · cases h

theorem part_run {T : TypeId} {n : Nat} {agg : Bool} (hn : szOf P T = some n) (ha : aggOf P T = some agg) {off : Nat} {us : List Value} (hle : off + n ≤ us.length) (h1 : agg = false → n = 1) :
    (part T us.toArray off).run P w = .ok (valOf agg ((us.drop off).take n)) w := by
  cases agg with
  | true => simp [part, run_isAgg ha, run_sizeOf hn, valOf, List.take_drop]
  | false =>
    have hn1 := h1 rfl
    subst hn1
    have hlt : off < us.length := by omega
    simp [part, run_isAgg ha, hlt, valOf, List.getElem?_take, List.getElem?_drop]

theorem flatT_one {d : Nat} {t : TypeId} {ks : List Lf} (h : flatT P d t = some ks) (ha : aggOf P t = some false) : ks.length = 1 := by
  cases d with
  | zero => simp [flatT] at h
  | succ d =>
    simp only [flatT] at h
    split at h
    · split at h
      · simp only [Option.some.injEq] at h; subst h; rfl
      · cases h
    · split at h
      · simp only [Option.some.injEq] at h; subst h; rfl
      · cases h
    · split at h
      · simp only [Option.some.injEq] at h; subst h; rfl
      · cases h
    · rename_i hu; simp [aggOf, hu] at ha
    · rename_i hu; simp [aggOf, hu] at ha
    · cases h

theorem eqs_i {x y : HV} {u v : Value} {r : Bool} (hx : rep ν K w x u) (hy : rep ν K w y v) (h : eqs .i x y = some r) : ∃ k a b, u = .int k a ∧ v = .int k b ∧ r = (a == b) := by
  unfold eqs at h
  split at h
  · split at h
    · rename_i k a k' b _ hk; subst hk
      simp only [Option.some.injEq] at h; simp only [rep] at hx hy
      exact ⟨_, _, _, hx, hy, h.symm⟩
    · cases h
  · contradiction
  · contradiction
  · cases h
theorem eqs_b {x y : HV} {u v : Value} {r : Bool} (hx : rep ν K w x u) (hy : rep ν K w y v) (h : eqs .b x y = some r) : ∃ a b, u = .bool a ∧ v = .bool b ∧ r = (a == b) := by
  unfold eqs at h
  split at h
  · contradiction
  · simp only [Option.some.injEq] at h; simp only [rep] at hx hy
    exact ⟨_, _, hx, hy, h.symm⟩
  · contradiction
  · cases h
theorem eqs_s {x y : HV} {u v : Value} {r : Bool} (hx : rep ν K w x u) (hy : rep ν K w y v) (h : eqs .s x y = some r) : ∃ a b, u = .string a ∧ v = .string b ∧ r = (a == b) := by
  unfold eqs at h
  split at h
  · contradiction
  · contradiction
  · simp only [Option.some.injEq] at h; simp only [rep] at hx hy
    exact ⟨_, _, hx, hy, h.symm⟩
  · cases h

/-- '==' of values of flat types, cell by cell. -/
theorem eq_flat : ∀ (d : Nat) {t : TypeId} {ks : List Lf}, flatT P d t = some ks → ∀ (k : Nat) {agg : Bool}, aggOf P t = some agg → ∀ {xs ys : List HV} {us vs : List Value} {r : Bool}, repL ν K w xs us → repL ν K w ys vs →
    eqL ks xs ys = some r → (Op.equalIn (k + d) t (valOf agg us) (valOf agg vs)).run P w = .ok r w
  | 0, t, ks, h, _, _, _, _, _, _, _, _, _, _, _ => by simp [flatT] at h
  | d + 1, t, ks, h, k, agg, ha, xs, ys, us, vs, r, hx, hy, he => by
    simp only [flatT] at h
    have leaf : ∀ (l : Lf), ks = [l] → agg = false → ∃ x y u v, xs = [x] ∧ ys = [y] ∧ us = [u] ∧ vs = [v] ∧ rep ν K w x u ∧ rep ν K w y v ∧ eqs l x y = some r := by
      rintro l rfl rfl
      obtain ⟨l1, l2⟩ := eqL_len he
      match xs, ys, l1, l2 with
      | [x], [y], _, _ =>
        obtain ⟨u, us', rfl, hu, hus⟩ := hx
        obtain ⟨v, vs', rfl, hv, hvs⟩ := hy
        simp only [repL] at hus hvs
        subst hus; subst hvs
        simp only [eqL] at he
        split at he
        · rename_i p q h1 h2
          simp only [Option.some.injEq] at h2; subst h2
          simp only [Bool.and_true, Option.some.injEq] at he; subst he
          exact ⟨x, y, u, v, rfl, rfl, rfl, rfl, hu, hv, h1⟩
        · cases he
    split at h
    · rename_i hu
      split at h
      · simp only [Option.some.injEq] at h; subst h
        have hag : agg = false := by simpa [aggOf, hu] using ha.symm
        obtain ⟨x, y, u, v, rfl, rfl, rfl, rfl, r1, r2, r3⟩ := leaf .b rfl hag
        obtain ⟨a, b, rfl, rfl, rfl⟩ := eqs_b r1 r2 r3
        subst hag
        rw [show k + (d + 1) = (k + d) + 1 by omega]
        simp [valOf, Op.equalIn, run_underlying hu]
      · cases h
    · rename_i hu
      split at h
      · simp only [Option.some.injEq] at h; subst h
        have hag : agg = false := by simpa [aggOf, hu] using ha.symm
        obtain ⟨x, y, u, v, rfl, rfl, rfl, rfl, r1, r2, r3⟩ := leaf .i rfl hag
        obtain ⟨kk, a, b, rfl, rfl, rfl⟩ := eqs_i r1 r2 r3
        subst hag
        rw [show k + (d + 1) = (k + d) + 1 by omega]
        simp [valOf, Op.equalIn, run_underlying hu]
      · cases h
    · rename_i hu
      split at h
      · simp only [Option.some.injEq] at h; subst h
        have hag : agg = false := by simpa [aggOf, hu] using ha.symm
        obtain ⟨x, y, u, v, rfl, rfl, rfl, rfl, r1, r2, r3⟩ := leaf .s rfl hag
        obtain ⟨a, b, rfl, rfl, rfl⟩ := eqs_s r1 r2 r3
        subst hag
        rw [show k + (d + 1) = (k + d) + 1 by omega]
        simp [valOf, Op.equalIn, run_underlying hu]
      · cases h
    · rename_i fs hu
      split at h
      · rename_i hst
        split at h
        · rename_i ks' hks
          split at h
          · rename_i hsz
            simp only [Option.some.injEq] at h; subst h
            have hag : agg = true := by simpa [aggOf, hu] using ha.symm
            subst hag
            have hf : P.fieldsOf t = fs := by simp [Program.fieldsOf, hu]
            have hlx := repL_length hx
            have hly := repL_length hy
            have key : ∀ (fl : List Field) (off : Nat) (kl : List Lf) (r : Bool), off ≤ xs.length → off ≤ ys.length → flatF P (flatT P d) off fl = some kl → eqL kl (xs.drop off) (ys.drop off) = some r → (Op.eqFields (k + d) us.toArray vs.toArray fl).run P w = .ok r w := by
              intro fl
              induction fl with
              | nil =>
                intro off kl r ho1 ho2 hfl hel
                simp only [flatF, Option.some.injEq] at hfl; subst hfl
                have hel' : r = true := by
                  cases hxd : xs.drop off <;> cases hyd : ys.drop off <;> simp [eqL, hxd, hyd] at hel
                  exact hel
                subst hel'
                simp [Op.eqFields]
              | cons f fl ih =>
                intro off kl r ho1 ho2 hfl hel
                simp only [flatF] at hfl
                split at hfl
                · rename_i hc
                  split at hfl
                  · rename_i kf hkf
                    obtain ⟨kr, hkr, rfl⟩ := Option.map_eq_some_iff.1 hfl
                    obtain ⟨r1, r2, e1, e2, rfl⟩ := eqL_split hel
                    obtain ⟨ag, ha1, hs1⟩ := flatT_sz hkf
                    obtain ⟨m1, m2⟩ := eqL_len e1
                    rw [List.length_take, List.length_drop] at m1 m2
                    have hone : ag = false → kf.length = 1 := fun hf => flatT_one hkf (by rw [ha1, hf])
                    have p1 := part_run (P := P) (w := w) hs1 ha1 (off := off) (us := us) (by omega) hone
                    have p2 := part_run (P := P) (w := w) hs1 ha1 (off := off) (us := vs) (by omega) hone
                    have q := eq_flat d hkf k ha1 (repL_take kf.length (repL_drop off hx)) (repL_take kf.length (repL_drop off hy)) e1
                    have ihh := ih (off + kf.length) kr r2 (by omega) (by omega) hkr (by simpa [List.drop_drop] using e2)
                    have hn : f.name ≠ "_" := by simpa using hc.1
                    rw [Op.eqFields]
                    simp only [if_pos hn, Sem.run_bind, p1, p2, hc.2, q, Result.andThen_ok]
                    cases r1
                    · simp
                    · simpa using ihh
                  · cases hfl
                · cases hfl
            rw [show k + (d + 1) = (k + d) + 1 by omega]
            simp only [valOf, if_true]
            rw [run_equalIn_struct (P := P) w (k + d) t us.toArray vs.toArray (by rw [hf]; exact hu) hst, hf]
            exact key fs.toList 0 ks' r (by omega) (by omega) hks (by simpa using he)
          · cases h
        · cases h
      · cases h
    · rename_i n el hu
      split at h
      · rename_i kf hkf
        split at h
        · rename_i hsz
          simp only [Option.some.injEq] at h; subst h
          have hag : agg = true := by simpa [aggOf, hu] using ha.symm
          subst hag
          obtain ⟨ag, ha1, hs1⟩ := flatT_sz hkf
          have hone : ag = false → kf.length = 1 := fun hf => flatT_one hkf (by rw [ha1, hf])
          have hlx := repL_length hx
          have hly := repL_length hy
          rw [show k + (d + 1) = (k + d) + 1 by omega]
          simp only [valOf, if_true, Op.equalIn, Sem.run_bind, run_underlying hu, Result.andThen_ok, run_sizeOf hs1]
          rw [Std.Legacy.Range.forIn_eq_forIn_range']
          have key : ∀ (m i : Nat) (r : Bool), i * kf.length ≤ xs.length → i * kf.length ≤ ys.length → eqL (List.replicate m kf).flatten (xs.drop (i * kf.length)) (ys.drop (i * kf.length)) = some r →
              (forIn (List.range' i m 1) ((none : Option Bool), ()) (fun (j : Nat) (_ : Option Bool × Unit) => (do
                let a ← part el us.toArray (j * kf.length)
                let b ← part el vs.toArray (j * kf.length)
                let c ← Op.equalIn (k + d) el a b
                if (!c) = true then pure (ForInStep.done (some false, ())) else pure (ForInStep.yield (none, ())) : Sem (ForInStep (Option Bool × Unit)))) : Sem (Option Bool × Unit)).run P w = .ok ((if r then none else some false), ()) w := by
            intro m
            induction m with
            | zero =>
              intro i r _ _ hel
              have hel' : r = true := by
                simp only [List.replicate_zero, List.flatten_nil] at hel
                cases hxd : xs.drop (i * kf.length) <;> cases hyd : ys.drop (i * kf.length) <;> simp [eqL, hxd, hyd] at hel
                exact hel
              subst hel'
              simp
            | succ m ih =>
              intro i r ho1 ho2 hel
              rw [List.replicate_succ, List.flatten_cons] at hel
              obtain ⟨r1, r2, e1, e2, rfl⟩ := eqL_split hel
              obtain ⟨m1, m2⟩ := eqL_len e1
              rw [List.length_take, List.length_drop] at m1 m2
              have p1 := part_run (P := P) (w := w) hs1 ha1 (off := i * kf.length) (us := us) (by omega) hone
              have p2 := part_run (P := P) (w := w) hs1 ha1 (off := i * kf.length) (us := vs) (by omega) hone
              have q := eq_flat d hkf k ha1 (repL_take kf.length (repL_drop (i * kf.length) hx)) (repL_take kf.length (repL_drop (i * kf.length) hy)) e1
              have hmul : (i + 1) * kf.length = i * kf.length + kf.length := by rw [Nat.add_mul]; omega
              have ihh := ih (i + 1) r2 (by omega) (by omega) (by rw [hmul]; simpa [List.drop_drop] using e2)
              rw [List.range'_succ, List.forIn_cons]
              simp only [Sem.run_bind, p1, p2, q, Result.andThen_ok]
              cases r1
              · simp
              · simpa using ihh
          have hk0 := key n 0 r (by omega) (by omega) (by simpa using he)
          have hsize : ([:n] : Std.Legacy.Range).size = n := by simp [Std.Legacy.Range.size]
          rw [hsize]
          have : (forIn (List.range' 0 n 1) ((none : Option Bool), ()) (fun (j : Nat) (_ : Option Bool × Unit) => (do
                let a ← part el us.toArray (j * kf.length)
                let b ← part el vs.toArray (j * kf.length)
                let c ← Op.equalIn (k + d) el a b
                if (!c) = true then pure (ForInStep.done (some false, ())) else pure (ForInStep.yield (none, ())) : Sem (ForInStep (Option Bool × Unit)))) : Sem (Option Bool × Unit)).run P w = .ok ((if r then none else some false), ()) w := hk0
          rw [this]
          cases r <;> simp
        · cases h
      · cases h
    · cases h

theorem eqIn_bool {d : Nat} {t : TypeId} {x y : Bool} (h : P.underlying t = some .bool) : (Op.equalIn (d + 1) t (.bool x) (.bool y)).run P w = .ok (x == y) w := by
  simp [Op.equalIn, run_underlying h]

theorem ev_eq (hst : St ν w0 K0 H0 N e H a w K μ) {t x y yt x' y' k} {ne : Bool} (ho : o.op = .binOp (if ne then .neq else .eql) t x y yt) (hk : okEq P t k = true) (hx : okOpd ν x x' = true) (hy : okOpd ν y y' = true)
    {z} (hz : (SOp.eq k ne x' y').ev e H = some z) : Calm P ν K μ e a w o z := by
  simp only [SOp.ev] at hz
  split at hz
  · rename_i p q h1 h2
    have e1 := hv_sound hst hx h1
    have e2 := hv_sound hst hy h2
    cases hq : eqv k p q with
    | none => simp [hq] at hz
    | some r =>
      simp only [hq, Option.map_some, Option.some.injEq] at hz; subst hz
      have fin : ∀ u v, a.eval x = u → a.eval y = v → (∀ op, eqGuard op t x y u v = pure ()) → (binOp .eql t u v = (do pure (.bool (← Op.equal t u v)))) → (binOp .neq t u v = (do pure (.bool (!(← Op.equal t u v))))) →
          (∀ d, (Op.equalIn (d + 1) t u v).run P w = .ok r w) → Calm P ν K μ e a w o (.h (.v (.bool (if ne then !r else r)))) := by
        intro u v hu hv hg hb1 hb2 hr
        refine ⟨.bool (if ne then !r else r), ?_, by simp [repE, rep], trivial⟩
        have hr' : (Op.equal t u v).run P w = .ok r w := hr 9999
        cases ne <;> simp [execOp, ho, hu, hv, hg, hb1, hb2, hr']
      unfold eqv at hq
      cases k
      · -- bool
        simp only at hq
        split at hq
        · simp only [Option.some.injEq] at hq; subst hq
          simp only [rep] at e1 e2
          simp only [okEq] at hk
          split at hk
          · rename_i hu
            exact fin _ _ e1 e2 (fun op => by cases op <;> rfl) rfl rfl (fun d => eqIn_bool hu)
          · cases hk
        · cases hq
      · -- pointers
        simp only [okEq] at hk
        split at hk
        · rename_i el hu
          simp only at hq
          split at hq
          · simp only [Option.some.injEq] at hq; subst hq
            simp only [rep] at e1 e2
            exact fin _ _ e1 e2 (fun op => by cases op <;> rfl) rfl rfl (fun d => by simp [Op.equalIn, run_underlying hu])
          · simp only [Option.some.injEq] at hq; subst hq
            simp only [rep] at e1 e2
            exact fin _ _ e1 e2 (fun op => by cases op <;> rfl) rfl rfl (fun d => by simp [Op.equalIn, run_underlying hu])
          · simp only [Option.some.injEq] at hq; subst hq
            simp only [rep] at e1 e2
            obtain ⟨b, off, us, g1, _⟩ := e1
            exact fin _ _ g1 e2 (fun op => by cases op <;> rfl) rfl rfl (fun d => by simp [Op.equalIn, run_underlying hu])
          · cases hq
        · cases hk
      · -- functions
        simp only [okEq] at hk
        split at hk
        · rename_i hu
          simp only at hq
          split at hq
          · simp only [Option.some.injEq] at hq; subst hq
            simp only [rep] at e1 e2
            exact fin _ _ e1 e2 (fun op => by cases op <;> rfl) rfl rfl (fun d => by simp [Op.equalIn, run_underlying hu])
          · simp only [Option.some.injEq] at hq; subst hq
            simp only [rep] at e1 e2
            obtain ⟨n, us, _, g1, _⟩ := e1
            exact fin _ _ g1 e2 (fun op => by cases op <;> rfl) rfl rfl (fun d => by simp [Op.equalIn, run_underlying hu])
          · cases hq
        · cases hk
      · -- slices
        simp only [okEq] at hk
        split at hk
        · rename_i el hu
          simp only at hq
          split at hq
          · simp only [Option.some.injEq] at hq; subst hq
            simp only [rep] at e1 e2
            exact fin _ _ e1 e2 (fun op => by cases op <;> rfl) rfl rfl (fun d => by simp [Op.equalIn, run_underlying hu])
          · rename_i tk sz g gs _ _
            simp only [rep] at e1 e2
            split at hq
            · cases hq
            · simp only [Option.some.injEq] at hq; subst hq
              obtain ⟨A, cap, vals, g1, g2, g3, g4, g5, g6, g7, g8⟩ := e1
              rcases g8 with g8 | ⟨b, off, hA, _⟩
              · cases g8
              · subst hA
                exact fin _ _ g1 e2 (fun op => by cases op <;> rfl) rfl rfl (fun d => by simp [Op.equalIn, run_underlying hu])
          · cases hq
        · cases hk
      · -- structs and arrays of scalars
        rename_i ks
        simp only [okEq, Bool.and_eq_true, decide_eq_true_eq, Bool.not_eq_true'] at hk
        simp only at hq
        split at hq
        · rename_i xs ys
          simp only [rep] at e1 e2
          obtain ⟨us, f1, _, f2⟩ := e1
          obtain ⟨vs, g1, _, g2⟩ := e2
          have hr := eq_flat (P := P) 20 hk.1.1 9980 hk.2 f2 g2 hq
          simp only [valOf, if_true] at hr
          refine ⟨.bool (if ne then !r else r), ?_, by simp [repE, rep], trivial⟩
          have hgd := fun op => run_eqGuard_agg (P := P) w op t x y us.toArray vs.toArray hk.1.2
          cases ne
          · simp only [Bool.false_eq_true, if_false] at ho
            simp only [execOp, ho, f1, g1, Sem.run_bind, hgd, Result.andThen_ok, run_eql_struct, hr, Sem.run_pure, Bool.false_eq_true, if_false]
          · simp only [if_true] at ho
            simp only [execOp, ho, f1, g1, Sem.run_bind, hgd, Result.andThen_ok, run_neq_struct, hr, Sem.run_pure, if_true]
        · cases hq
  · cases hz

end
end Sm
