/-
  0,1,N,P,Q,R,T,U,V,W
-/
import Derived.Test.YtegmmhldpmmkeaaGreatDoorSmLD
import Derived.Laws.IdiomRangeMap
import Derived.Laws.MakeOwn
import Derived.Defers
set_option linter.unusedVariables false
set_option linter.unusedSimpArgs false
set_option linter.unnecessarySimpa false
namespace Sm
open Go
section
variable {P : Program} {D : List (Nat × List HV)} {ν : Nat → Option Nat} {w0 : World} {K0 : Nat → Nat} {H0 : Heap} {N : Nat} {e : Env} {H : Heap} {a : Act} {w : World} {K μ : Nat → Nat} {o : Oper}
def HRun (P : Program) (ν : Nat → Option Nat) (K : Nat → Nat) (H : Heap) (a : Act) (w : World) (o : Oper) (R : HV → Heap → Prop) : Prop :=
 ∃ u w' h H' K', (execOp a.eval o).run P w = .ok (.value u) w' ∧ Ext (quiet ν) w K H w' K' H' ∧ hsat ν w' K' H' ∧ rep ν K' w' h u ∧ R h H'
def HRunS (P : Program) (ν : Nat → Option Nat) (K : Nat → Nat) (H : Heap) (a : Act) (w : World) (o : Oper) (R : HV → Heap → Prop) : Prop :=
 ∃ w' H' K', (execOp a.eval o).run P w = .ok .skip w' ∧ Ext (quiet ν) w K H w' K' H' ∧ hsat ν w' K' H' ∧ R (.v Go.undef) H'
def setB (w : World) (b : Nat) (o : Obj) : World := { w with heap := w.heap.setIfInBounds b o }
theorem setB_self {b : Nat} {o : Obj} (h : b < w.heap.size) : (setB w b o).heap[b]? = some o := by simp [setB, h]
theorem setB_ne {b c : Nat} {o : Obj} (h : c ≠ b) : (setB w b o).heap[c]? = w.heap[c]? := by simp [setB, Array.getElem?_setIfInBounds_ne (Ne.symm h)]
theorem run_getO {b : Nat} {o : Obj} (h : w.heap[b]? = some o) (hn : ∀ us T fr, o ≠ .cells us T fr) : (getObj b).run P w = .ok o w := by
 cases o <;> first | (simp [getObj, Sem.run, h]; done) | exact absurd rfl (hn _ _ _)
theorem run_setO {b : Nat} {o o' : Obj} (h : w.heap[b]? = some o) (hn : ∀ us T fr, o ≠ .cells us T fr) : (setObj b o').run P w = .ok () (setB w b o') := by
 cases o <;> first | (simp [setObj, Sem.run, h, setB]; done) | exact absurd rfl (hn _ _ _)
def mores (ν : Nat → Option Nat) (K : Nat → Nat) (w : World) (o : Obj) : Res → Prop
 | .mp es clock => ∃ us : Array MapEntry, o = .map us clock ∧ repM ν K w es us.toList
 | .it m since seen last => o = .mapIter m since seen.toArray last
 | _ => False
theorem mores.grow {K' : Nat → Nat} {w' : World} (hg : Grow w K w' K') {o : Obj} : ∀ {r : Res}, mores ν K w o r → mores ν K' w' o r
 | .mp _ _, ⟨us, h1, h2⟩ => ⟨us, h1, repM.grow hg _ h2⟩
 | .it _ _ _ _, h => h
 | .obj _, h => h.elim
 | .tip _ _, h => h.elim
theorem mores.ok {b : Nat} {o : Obj} (hb : w.heap[b]? = some o) (hk : K b = 0) : ∀ {r : Res}, mores ν K w o r → resok ν K w b r
 | .mp _ _, ⟨us, h1, h2⟩ => ⟨us, by rw [hb, h1], hk, h2⟩
 | .it _ _ _ _, h => ⟨by rw [hb, h], hk⟩
 | .obj _, h => h.elim
 | .tip _ _, h => h.elim
theorem push_mo (hs : hsat ν w K H) (o : Obj) (r : Res) (hr : mores ν K w o r) : Ext (quiet ν) w K H (w.alloc o) K (H.upd w.heap.size (some r)) ∧ hsat ν (w.alloc o) K (H.upd w.heap.size (some r)) := by
 have hg := grow_push hs o
 refine ⟨⟨rfl, rfl, rfl, by simp, fun _ => Nat.le_refl _, hg, fun b hb hH => ⟨heap_push_lt _ hb, rfl, by rw [Heap.upd, if_neg (by omega)]; exact hH⟩⟩, ⟨fun b r' hb => ?_, fun b hb => ?_, hs.tab.grow hg⟩⟩
 · by_cases h : b = w.heap.size
   · subst h
     simp only [Heap.upd, if_true, Option.some.injEq] at hb
     subst hb
     exact (hr.grow hg).ok (heap_alloc_new w _) (hs.fresh _ (Nat.le_refl _))
   · rw [Heap.upd, if_neg h] at hb
     exact (hs.res b r' hb).move hg (heap_push_lt _ (hs.lt hb)) rfl
 · simp only [World.size_alloc] at hb
   exact hs.fresh b (by omega)
theorem set_mo (hs : hsat ν w K H) {b : Nat} {r0 : Res} {o0 : Obj} (h0 : H b = some r0) (hb : w.heap[b]? = some o0) (hn : ∀ us T fr, o0 ≠ .cells us T fr) (hk : K b = 0) (o : Obj) (r : Res) (hr : mores ν K w o r) :
   Ext (quiet ν) w K H (setB w b o) K (H.upd b (some r)) ∧ hsat ν (setB w b o) K (H.upd b (some r)) := by
 have hlt := lt_of_heap hb
 have hg : Grow w K (setB w b o) K := ⟨fun _ => Nat.le_refl _, fun c j hj => by
   have hcb : c ≠ b := by rintro rfl; omega
   simp only [World.cell?, setB_ne hcb]⟩
 refine ⟨⟨rfl, rfl, rfl, by simp [setB], (fun _ => Nat.le_refl _), hg, fun c hc hH => ?_⟩, ⟨fun c r' hc => ?_, fun c hc => ?_, hs.tab.grow hg⟩⟩
 · have hcb : c ≠ b := by rintro rfl; rw [hH] at h0; cases h0
   exact ⟨setB_ne hcb, rfl, by rw [Heap.upd, if_neg hcb]; exact hH⟩
 · by_cases h : c = b
   · subst h
     simp only [Heap.upd, if_true, Option.some.injEq] at hc
     subst hc
     exact (hr.grow hg).ok (setB_self hlt) hk
   · rw [Heap.upd, if_neg h] at hc
     exact (hs.res c r' hc).move hg (setB_ne h) rfl
 · have : w.heap.size ≤ c := by simpa [setB] using hc
   exact hs.fresh c this
theorem drew_ext (hs : hsat ν w K H) : Ext (quiet ν) w K H w.drew K H ∧ hsat ν w.drew K H := ⟨Ext.draw w K H _ (Nat.le_succ _), hs.draw⟩
theorem ev_b2c (hst : St D ν w0 K0 H0 N e H a w K μ) {src dst x x'} (ho : o.op = .convert src dst x) (h1 : isBytes P src = true) (h2 : isStr P dst = true) (hx : okOpd ν x x' = true) {zz} (hz : (SOp.b2c x').ev e H = some zz) : Calm P ν K μ e a w o zz := by
 obtain ⟨el, u1, u2⟩ := isBytes_under h1
 have u3 := isStr_under h2
 have fin : ∀ v s, a.eval x = v → (convert src dst v).run P w = .ok (.string s) w → zz = .h (.v (.string s)) → Calm P ν K μ e a w o zz := by
   rintro v s hv hr rfl
   exact ⟨.string s, by simp [execOp, ho, hv, hr], by simp [repE, rep], trivial⟩
 simp only [SOp.ev] at hz
 split at hz
 · rename_i tk es hop
   have e1 := hv_sound hst hx hop
   cases hu : unbytes es with
   | none => simp [hu] at hz
   | some l =>
     simp only [hu, Option.map_some, Option.some.injEq] at hz
     have hes := unbytes_ok hu
     obtain ⟨s, hs0⟩ : ∃ s : ByteArray, s = ⟨l.toArray⟩ := ⟨_, rfl⟩
     rw [← hs0] at hes hz
     subst hes
     simp only [rep] at e1
     obtain ⟨A, cap, vals, g1, g2, g3, g4, g5, g6, g7, g8⟩ := e1
     have hlen : (bytesHV s).length = s.data.toList.length := by simp [bytesHV]
     have hs : (⟨s.data.toList.toArray⟩ : ByteArray) = s := by cases s; simp
     rcases g8 with g8 | ⟨b, off, rfl, _, hc⟩
     · have hnil : s.data.toList = [] := by have := congrArg List.length g8; rw [hlen] at this; exact List.length_eq_zero_iff.mp this
       refine fin _ s g1 ?_ hz.symm
       rw [run_convert_bytes_string w src dst el A _ cap u1 u2 u3]
       have hse : s = ByteArray.empty := by rw [← hs, hnil]; rfl
       cases A with
       | none => simp [Conv.bytesToString, hse]
       | some ad =>
         have h0 : (bytesHV s).length = 0 := by rw [hlen, hnil]; rfl
         rw [h0]
         have := run_bytesToString (P := P) w ad 0 cap [] (by
           have := run_loadCells_list (P := P) w ad ([] : List Value) (fun j v hj => by simp at hj)
           simpa using this)
         rw [this, hse]; rfl
     · refine fin _ s g1 ?_ hz.symm
       rw [hlen]
       have := run_convert_bytes_back (P := P) w src dst el ⟨b, off, none⟩ cap s.data.toList u1 u2 u3 (fun j hj => by
         rw [addr_add]
         refine hc j _ ?_
         rw [bytes_cells g7]
         simp [List.getElem?_eq_getElem hj])
       rw [this, hs]
 · rename_i hop
   have e1 := hv_sound hst hx hop
   simp only [rep] at e1
   simp only [Option.some.injEq] at hz
   refine fin _ _ e1 ?_ hz.symm
   rw [run_convert_bytes_string w src dst el none 0 0 u1 u2 u3]
   simp [Conv.bytesToString]; rfl
 · cases hz
def keyD (s : Bool) (d : TypeDesc) : Prop := (s = true ∧ d = .string) ∨ (s = false ∧ ∃ k, d = .int k)
theorem okKey_d {s : Bool} {T : TypeId} (h : okKey P s T = true) : ∃ d, P.underlying T = some d ∧ keyD s d := by
 unfold okKey at h
 split at h
 · rename_i hu; exact ⟨_, hu, .inl ⟨h, rfl⟩⟩
 · rename_i k hu; exact ⟨_, hu, .inr ⟨by simpa using h, k, rfl⟩⟩
 · cases h
theorem run_checkKey {s : Bool} {T : TypeId} {d : TypeDesc} (hu : P.underlying T = some d) (hd : keyD s d) {k : Value} (hk : isKey s k = true) (em : Bool) (n : Nat) : (Instr.checkKey em (n + 1) T k).run P w = .ok () w := by
 rcases hd with ⟨rfl, rfl⟩ | ⟨rfl, kk, rfl⟩ <;> cases k <;> simp only [isKey, Bool.false_eq_true, Bool.not_true] at hk <;> simp [Instr.checkKey, run_underlying hu]
theorem keq_now {s : Bool} {d : TypeDesc} (hd : keyD s d) {x y : Value} {r : Bool} (h : keq s x y = some r) : Instr.sameNow d x y = some r := by
 rcases hd with ⟨rfl, rfl⟩ | ⟨rfl, kk, rfl⟩ <;> cases x <;> cases y <;> simp only [keq, if_true, if_false, Bool.false_eq_true, reduceCtorEq] at h <;> simp only [Instr.sameNow] <;> exact h
theorem keq_eq {s : Bool} {x y : Value} (h : keq s x y = some true) : x = y := by
 cases x <;> cases y <;> simp only [keq, reduceCtorEq] at h
 · split at h
   · cases h
   · split at h
     · rename_i hk; simp at h; rw [hk, h]
     · cases h
 · split at h
   · simp only [Option.some.injEq] at h; rw [(MapKept.bytes_beq _ _).mp h]
   · cases h
theorem keq_bits {s : Bool} {x y : Value} (h : keq s x y = some true) (n : Nat) : Instr.sameBits (n + 1) y x = true := by
 have := keq_eq h
 subst this
 cases x <;> simp only [keq, reduceCtorEq] at h <;> simp [Instr.sameBits, (MapKept.bytes_beq _ _).mpr rfl]
theorem mfind_now {s : Bool} {d : TypeDesc} (hd : keyD s d) (k : Value) : ∀ {es : List MEnt} {us : List MapEntry} (_ : repM ν K w es us) (i : Nat),
   (mfind s k es i = some none → Instr.findNow d k us i = some none) ∧
   (∀ p, mfind s k es i = some (some p) → ∃ j x u, p.1 = i + j ∧ es[j]? = some x ∧ p.2 = x.2.1 ∧ keq s k x.1 = some true ∧ us[j]? = some ⟨x.1, u, x.2.2⟩ ∧ rep ν K w x.2.1 u ∧ Instr.findNow d k us i = some (some (i + j, u)))
 | [], us, hr, i => by
   simp only [repM] at hr; subst hr
   exact ⟨fun _ => rfl, fun p h => by cases h⟩
 | x :: es, us, hr, i => by
   obtain ⟨u, us', rfl, h1, h2⟩ := hr
   obtain ⟨ih1, ih2⟩ := mfind_now hd k h2 (i + 1)
   refine ⟨fun h => ?_, fun p h => ?_⟩
   · simp only [mfind] at h
     split at h
     · cases h
     · rename_i hq
       simp only [Instr.findNow, keq_now hd hq]
       exact ih1 h
     · cases h
   · simp only [mfind] at h
     split at h
     · rename_i hq
       simp only [Option.some.injEq] at h; subst h
       exact ⟨0, x, u, rfl, rfl, rfl, hq, rfl, h1, by simp only [Instr.findNow, keq_now hd hq]; rfl⟩
     · rename_i hq
       obtain ⟨j, y, v, g1, g2, g3, g4, g5, g6, g7⟩ := ih2 p h
       refine ⟨j + 1, y, v, by omega, by simpa using g2, g3, g4, by simpa using g5, g6, ?_⟩
       simp only [Instr.findNow, keq_now hd hq, g7]
       congr 3; omega
     · cases h
theorem run_findKey {T : TypeId} {d : TypeDesc} (hu : P.underlying T = some d) {k : Value} {us : List MapEntry} {r : Option (Nat × Value)} (h : Instr.findNow d k us 0 = some r) : (Instr.findKey T k us).run P w = .ok r w := by
 simp [Instr.findKey, run_underlying hu, h]
theorem repM_length : ∀ {es : List MEnt} {us : List MapEntry}, repM ν K w es us → us.length = es.length
 | [], us, h => by simp only [repM] at h; simp [h]
 | x :: es, us, h => by obtain ⟨u, us', rfl, _, h2⟩ := h; simp [repM_length h2]
theorem repM_append : ∀ {es fs : List MEnt} {us vs : List MapEntry}, repM ν K w es us → repM ν K w fs vs → repM ν K w (es ++ fs) (us ++ vs)
 | [], fs, us, vs, h, k => by simp only [repM] at h; subst h; exact k
 | x :: es, fs, us, vs, h, k => by
   obtain ⟨u, us', rfl, h1, h2⟩ := h
   exact ⟨u, us' ++ vs, rfl, h1, repM_append h2 k⟩
theorem repM_set {k : Value} {h : HV} {v : Value} (hv : rep ν K w h v) : ∀ {es : List MEnt} {us : List MapEntry} (j : Nat), repM ν K w es us → repM ν K w (es.modify j fun e => (k, h, e.2.2)) (us.modify j fun e => { e with key := k, val := v })
 | [], us, j, hr => by simp only [repM] at hr; subst hr; cases j <;> simp [repM]
 | x :: es, us, 0, hr => by
   obtain ⟨u, us', rfl, h1, h2⟩ := hr
   exact ⟨v, us', by simp, hv, h2⟩
 | x :: es, us, j + 1, hr => by
   obtain ⟨u, us', rfl, h1, h2⟩ := hr
   rw [List.modify_succ_cons, List.modify_succ_cons]
   exact ⟨u, _, rfl, h1, repM_set hv j h2⟩
theorem repM_erase : ∀ {es : List MEnt} {us : List MapEntry} (j : Nat), repM ν K w es us → repM ν K w (es.eraseIdx j) (us.eraseIdx j)
 | [], us, j, hr => by simp only [repM] at hr; subst hr; simp [repM]
 | x :: es, us, 0, hr => by
   obtain ⟨u, us', rfl, h1, h2⟩ := hr
   exact h2
 | x :: es, us, j + 1, hr => by
   obtain ⟨u, us', rfl, h1, h2⟩ := hr
   exact ⟨u, _, rfl, h1, repM_erase j h2⟩
theorem repM_mem : ∀ {es : List MEnt} {us : List MapEntry}, repM ν K w es us → ∀ {y : MapEntry}, y ∈ us → ∃ x ∈ es, x.1 = y.key ∧ x.2.2 = y.born ∧ rep ν K w x.2.1 y.val
 | [], us, h, y, hy => by simp only [repM] at h; subst h; cases hy
 | x :: es, us, h, y, hy => by
   obtain ⟨u, us', rfl, h1, h2⟩ := h
   rcases List.mem_cons.mp hy with rfl | hy
   · exact ⟨x, by simp, rfl, rfl, h1⟩
   · obtain ⟨z, z1, z2⟩ := repM_mem h2 hy
     exact ⟨z, by simp [z1], z2⟩
theorem repM_mem2 : ∀ {es : List MEnt} {us : List MapEntry}, repM ν K w es us → ∀ {x : MEnt}, x ∈ es → ∃ y ∈ us, x.1 = y.key ∧ x.2.2 = y.born ∧ rep ν K w x.2.1 y.val
 | [], us, h, x, hx => by cases hx
 | x :: es, us, h, z, hz => by
   obtain ⟨u, us', rfl, h1, h2⟩ := h
   rcases List.mem_cons.mp hz with rfl | hz
   · exact ⟨_, List.mem_cons_self, rfl, rfl, h1⟩
   · obtain ⟨y, z1, z2⟩ := repM_mem2 h2 hz
     exact ⟨y, by simp [z1], z2⟩
theorem okZero_run {T : TypeId} {agg : Bool} {zero : List HV} (h : okZero P T agg zero = true) : ∃ z, (zeroValue T).run P w = .ok z w ∧ rep ν K w (mzero agg zero) z := by
 unfold okZero at h
 cases hz : (P.info? T).bind (·.zero) with
 | none => rw [hz] at h; cases h
 | some z =>
   rw [hz] at h
   obtain ⟨i, hi, hzi⟩ := Option.bind_eq_some_iff.mp hz
   refine ⟨z, by simp [zeroValue, typeInfo, hi, hzi], ?_⟩
   split at h
   · rename_i cs hcs
     simp only [Option.some.injEq] at hcs
     subst hcs
     simp only [Bool.and_eq_true] at h
     obtain ⟨h1, h2⟩ := h
     subst h1
     obtain ⟨q1, q2⟩ := zeq_rep (ν := ν) (K := K) (w := w) h2
     simp only [mzero, if_true, rep]
     exact ⟨cs.toList, by simp, q2, q1⟩
   · rename_i z' _ hcs
     simp only [Option.some.injEq] at hcs
     subst hcs
     simp only [Bool.and_eq_true, Bool.not_eq_true'] at h
     obtain ⟨h1, h2⟩ := h
     subst h1
     obtain ⟨q1, q2⟩ := zeq_rep (ν := ν) (K := K) (w := w) h2
     cases zero with
     | nil => simp [repL] at q1
     | cons c cs =>
       obtain ⟨u, us', e1, e2, e3⟩ := q1
       cases e1
       exact e2
   · cases h
theorem h_mk (hst : St D ν w0 K0 H0 N e H a w K μ) {T} (ho : o.op = .makeMap T none) {R : HV → Heap → Prop} (hR : mopK .mk [] H R) : HRun P ν K H a w o R := by
 obtain ⟨x1, x2⟩ := push_mo hst.hs (.map #[] 0) (.mp [] 0) ⟨#[], rfl, by simp [repM]⟩
 exact ⟨.map (some w.heap.size), w.alloc (.map #[] 0), .v (.map (some w.heap.size)), _, _, by simp [execOp, ho, Instr.makeMap], x1, x2, by simp [rep], hR w.heap.size (hst.hs.none_new (Nat.le_refl _))⟩
theorem mp_of (hst : St D ν w0 K0 H0 N e H a w K μ) {b : Nat} {es : List MEnt} {c : Nat} (hb : H b = some (.mp es c)) : ∃ us : Array MapEntry, w.heap[b]? = some (.map us c) ∧ K b = 0 ∧ repM ν K w es us.toList ∧ (getObj b).run P w = .ok (.map us c) w := by
 obtain ⟨us, h1, h2, h3⟩ := hst.hs.res b _ hb
 exact ⟨us, h1, h2, h3, run_getO h1 (by simp)⟩
theorem h_lkp (hst : St D ν w0 K0 H0 N e H a w K μ) {T x k ok x' k' s agg zero kt el} (ho : o.op = .lookup T x k ok) (hT : mapOf P T = some (kt, el)) (hkt : okKey P s kt = true) (hz : okZero P el agg zero = true) (hx : okOpd ν x x' = true) (hk : okOpd ν k k' = true)
   {hs} (hh : e.hvs [x', k'] = some hs) {R : HV → Heap → Prop} (hR : mopK (.lkp s ok agg zero) hs H R) : HRun P ν K H a w o R := by
 obtain ⟨z1, z2, h1, h2, rfl⟩ := hvs_two hh
 have e1 := hv_sound hst hx h1
 have e2 := hv_sound hst hk h2
 have hu := mapOf_under hT
 obtain ⟨d, hd, hkd⟩ := okKey_d hkt
 obtain ⟨z, hzr, hzz⟩ := okZero_run (ν := ν) (K := K) (w := w) hz
 have hck : ∀ kk em, isKey s kk = true → (Instr.checkKey em 10000 kt kk).run P w = .ok () w := fun kk em h => run_checkKey hd hkd h em 9999
 have fin : ∀ (u : Value) (h : HV) (b : Bool), rep ν K w h u → rep ν K w (okd ok h b) (if ok then .tuple #[u, .bool b] else u) := by
   intro u h b hr
   cases ok
   · exact hr
   · simp only [okd, if_true, rep, repL]
     exact ⟨[u, .bool b], rfl, u, [.bool b], rfl, hr, _, [], rfl, rfl, rfl⟩
 cases z1 with
 | v xv =>
   cases xv with
   | map r =>
     cases z2 with
     | v kv =>
       simp only [rep] at e1 e2
       cases r with
       | none =>
         obtain ⟨q1, h', q0, q2⟩ := hR
         refine ⟨_, w, _, H, K, ?_, Ext.refl _ _ _, hst.hs, q0 _ _ _ _ (fin z _ false hzz), q2⟩
         have hf : (Instr.findKey kt kv ([] : List MapEntry)).run P w = .ok none w := run_findKey hd rfl
         simp [execOp, ho, e1, e2, Instr.lookup, run_underlying hu, hck kv _ q1, hf, hzr]
       | some b =>
         obtain ⟨q1, es, c, q2, q3⟩ := hR
         obtain ⟨us, m1, m2, m3, m4⟩ := mp_of (P := P) hst q2
         obtain ⟨n1, n2⟩ := mfind_now hkd kv m3 0
         unfold mres at q3
         split at q3
         · rename_i p hp
           obtain ⟨j, y, u, g1, g2, g3, g4, g5, g6, g7⟩ := n2 p hp
           have hf := run_findKey (w := w) hd g7
           rw [g3] at q3
           refine ⟨_, w, _, H, K, ?_, Ext.refl _ _ _, hst.hs, fin u _ true g6, q3⟩
           simp [execOp, ho, e1, e2, Instr.lookup, run_underlying hu, hck kv _ q1, m4, hf]
         · rename_i hp
           have hf := run_findKey (w := w) hd (n1 hp)
           obtain ⟨h', q0, q3⟩ := q3
           refine ⟨_, w, _, H, K, ?_, Ext.refl _ _ _, hst.hs, q0 _ _ _ _ (fin z _ false hzz), q3⟩
           simp [execOp, ho, e1, e2, Instr.lookup, run_underlying hu, hck kv _ q1, m4, hf, hzr]
         · exact q3.elim
     | _ => exact (by first | exact hR.elim | (cases r <;> exact hR.elim))
   | _ => exact (by first | exact hR.elim | (cases z2 <;> exact hR.elim))
 | _ => exact (by first | exact hR.elim | (cases z2 <;> exact hR.elim))
theorem h_upd (hst : St D ν w0 K0 H0 N e H a w K μ) {T m k x m' k' x' s kt el} (ho : o.op = .mapUpdate T m k x ∨ o.op = .insert T m k x) (hT : mapOf P T = some (kt, el)) (hkt : okKey P s kt = true) (hm : okOpd ν m m' = true) (hk : okOpd ν k k' = true) (hx : okOpd ν x x' = true)
   {hs} (hh : e.hvs [m', k', x'] = some hs) {R : HV → Heap → Prop} (hR : mopK (.upd s) hs H R) : HRunS P ν K H a w o R := by
 obtain ⟨z1, z2, z3, h1, h2, h3, rfl⟩ : ∃ z1 z2 z3, e.hv m' = some z1 ∧ e.hv k' = some z2 ∧ e.hv x' = some z3 ∧ hs = [z1, z2, z3] := by
   simp only [Env.hvs] at hh
   split at hh
   · rename_i q1 q2 q3 q4
     split at q4
     · rename_i q5 q6 q7 q8
       split at q8
       · rename_i q9 q10 q11 q12
         cases q12; cases q8; cases q4; cases hh
         exact ⟨_, _, _, q3, q7, q11, rfl⟩
       · cases q8
     · cases q4
   · cases hh
 have e1 := hv_sound hst hm h1
 have e2 := hv_sound hst hk h2
 have e3 := hv_sound hst hx h3
 have hu := mapOf_under hT
 obtain ⟨d, hd, hkd⟩ := okKey_d hkt
 have hck : ∀ kk em, isKey s kk = true → (Instr.checkKey em 10000 kt kk).run P w = .ok () w := fun kk em h => run_checkKey hd hkd h em 9999
 cases z1 with
 | v xv =>
   cases xv with
   | map r =>
     cases r with
     | none => exact (by first | exact hR.elim | (cases z2 <;> exact hR.elim))
     | some b =>
       cases z2 with
       | v kv =>
         simp only [rep] at e1 e2
         obtain ⟨q1, es, c, q2, q3⟩ := hR
         obtain ⟨us, m1, m2, m3, m4⟩ := mp_of (P := P) hst q2
         obtain ⟨n1, n2⟩ := mfind_now hkd kv m3 0
         unfold mres at q3
         split at q3
         · rename_i p hp
           obtain ⟨j, y, u, g1, g2, g3, g4, g5, g6, g7⟩ := n2 p hp
           have hf := run_findKey (w := w) hd g7
           rw [show p.1 = j by omega] at q3
           rw [Nat.zero_add] at hf
           have hus : us[j]? = some ⟨y.1, u, y.2.2⟩ := by rw [← Array.getElem?_toList]; exact g5
           obtain ⟨x1, x2⟩ := set_mo hst.hs q2 m1 (by simp) m2 (.map (us.modify j fun e => { e with key := kv, val := a.eval x }) c) (.mp (es.modify j fun e => (kv, z3, e.2.2)) c) ⟨_, rfl, by rw [Array.toList_modify]; exact repM_set e3 j m3⟩
           refine ⟨_, _, K, ?_, x1, x2, q3⟩
           have hkts : (Instr.keyThatStays y.1 kv).run P w = .ok kv w := by
             simp [Instr.keyThatStays, keq_bits g4 9999]
           have hset := run_setO (P := P) (w := w) m1 (by simp) (o' := .map (us.modify j fun e => { e with key := kv, val := a.eval x }) c)
           rcases ho with ho | ho <;> simp [execOp, ho, e1, e2, Instr.mapUpdate, run_underlying hu, hck kv _ q1, m4, hf, hus, hkts, hset]
         · rename_i hp
           have hf := run_findKey (w := w) hd (n1 hp)
           obtain ⟨x1, x2⟩ := set_mo hst.hs q2 m1 (by simp) m2 (.map (us.push ⟨kv, a.eval x, c⟩) (c + 1)) (.mp (es ++ [(kv, z3, c)]) (c + 1)) ⟨_, rfl, by rw [Array.toList_push]; exact repM_append m3 ⟨_, [], rfl, e3, rfl⟩⟩
           refine ⟨_, _, K, ?_, x1, x2, q3⟩
           have hset := run_setO (P := P) (w := w) m1 (by simp) (o' := .map (us.push ⟨kv, a.eval x, c⟩) (c + 1))
           rcases ho with ho | ho <;> simp [execOp, ho, e1, e2, Instr.mapUpdate, run_underlying hu, hck kv _ q1, m4, hf, hset]
         · exact q3.elim
       | _ => exact hR.elim
   | _ => exact (by first | exact hR.elim | (cases z2 <;> exact hR.elim))
 | _ => exact (by first | exact hR.elim | (cases z2 <;> exact hR.elim))
theorem h_del (hst : St D ν w0 K0 H0 N e H a w K μ) {c : Call} {t ts m k m' k' s kt el} (ho : o.op = .call c) (hc : c.callee = .builtin .delete) (hargs : c.args.toList = [m, k]) (hts : c.argTypes.toList = t :: ts) (hT : mapOf P t = some (kt, el)) (hkt : okKey P s kt = true) (hm : okOpd ν m m' = true) (hk : okOpd ν k k' = true)
   {hs} (hh : e.hvs [m', k'] = some hs) {R : HV → Heap → Prop} (hR : mopK (.del s) hs H R) : HRun P ν K H a w o R := by
 obtain ⟨z1, z2, h1, h2, rfl⟩ := hvs_two hh
 have e1 := hv_sound hst hm h1
 have e2 := hv_sound hst hk h2
 have hu := mapOf_under hT
 have ha := arr2 hargs
 have ht0 : c.argTypes[0]? = some t := by rw [← Array.getElem?_toList, hts]; rfl
 obtain ⟨d, hd, hkd⟩ := okKey_d hkt
 have hck : ∀ kk em, isKey s kk = true → (Instr.checkKey em 10000 kt kk).run P w = .ok () w := fun kk em h => run_checkKey hd hkd h em 9999
 cases z1 with
 | v xv =>
   cases xv with
   | map r =>
     cases z2 with
     | v kv =>
       simp only [rep] at e1 e2
       cases r with
       | none =>
         obtain ⟨q1, q2⟩ := hR
         refine ⟨.tuple #[], w, .tu [], H, K, ?_, Ext.refl _ _ _, hst.hs, by simp [rep, repL], q2⟩
         simp [execOp, ho, resolve, hc, ha, ht0, invoke, builtin, e1, e2, Builtin.delete_, run_underlying hu, hck kv _ q1]
       | some b =>
         obtain ⟨q1, es, c', q2, q3⟩ := hR
         obtain ⟨us, m1, m2, m3, m4⟩ := mp_of (P := P) hst q2
         obtain ⟨n1, n2⟩ := mfind_now hkd kv m3 0
         unfold mres at q3
         split at q3
         · rename_i p hp
           obtain ⟨j, y, u, g1, g2, g3, g4, g5, g6, g7⟩ := n2 p hp
           have hf := run_findKey (w := w) hd g7
           rw [show p.1 = j by omega] at q3
           rw [Nat.zero_add] at hf
           have hjl : j < us.size := by
             rcases Nat.lt_or_ge j us.size with h | h
             · exact h
             · rw [List.getElem?_eq_none (by simpa using h)] at g5; cases g5
           obtain ⟨x1, x2⟩ := set_mo hst.hs q2 m1 (by simp) m2 (.map (us.eraseIdxIfInBounds j) c') (.mp (es.eraseIdx j) c') ⟨_, rfl, by simp only [Array.eraseIdxIfInBounds, hjl, dif_pos, Array.toList_eraseIdx]; exact repM_erase j m3⟩
           refine ⟨.tuple #[], _, .tu [], _, K, ?_, x1, x2, by simp [rep, repL], q3⟩
           have hset := run_setO (P := P) (w := w) m1 (by simp) (o' := .map (us.eraseIdxIfInBounds j) c')
           simp [execOp, ho, resolve, hc, ha, ht0, invoke, builtin, e1, e2, Builtin.delete_, run_underlying hu, hck kv _ q1, m4, hf, hset]
         · rename_i hp
           have hf := run_findKey (w := w) hd (n1 hp)
           obtain ⟨x1, x2⟩ := set_mo hst.hs q2 m1 (by simp) m2 (.map us c') (.mp es c') ⟨_, rfl, m3⟩
           refine ⟨.tuple #[], _, .tu [], _, K, ?_, x1, x2, by simp [rep, repL], q3⟩
           have hset := run_setO (P := P) (w := w) m1 (by simp) (o' := .map us c')
           simp [execOp, ho, resolve, hc, ha, ht0, invoke, builtin, e1, e2, Builtin.delete_, run_underlying hu, hck kv _ q1, m4, hf, hset]
         · exact q3.elim
     | _ => exact (by first | exact hR.elim | (cases r <;> exact hR.elim))
   | _ => exact (by first | exact hR.elim | (cases z2 <;> exact hR.elim))
 | _ => exact (by first | exact hR.elim | (cases z2 <;> exact hR.elim))
theorem h_mlen (hst : St D ν w0 K0 H0 N e H a w K μ) {c : Call} {t m m' kt el} (ho : o.op = .call c) (hc : c.callee = .builtin .len) (hargs : c.args.toList = [m]) (hts : c.argTypes.toList = [t]) (hT : mapOf P t = some (kt, el)) (hm : okOpd ν m m' = true)
   {hs} (hh : e.hvs [m'] = some hs) {R : HV → Heap → Prop} (hR : mopK .len hs H R) : HRun P ν K H a w o R := by
 obtain ⟨z1, h1, rfl⟩ := hvs_one hh
 have e1 := hv_sound hst hm h1
 have hu := mapOf_under hT
 have ha := arr1 hargs
 have ht := arr1 hts
 cases z1 with
 | v xv =>
   cases xv with
   | map r =>
     simp only [rep] at e1
     cases r with
     | none =>
       exact ⟨.int .i64 0, w, _, H, K, by simp [execOp, ho, resolve, hc, ha, ht, invoke, builtin, e1, Builtin.len_, run_underlying hu, goInt], Ext.refl _ _ _, hst.hs, by simp only [rep], hR⟩
     | some b =>
       obtain ⟨es, c', q2, q3⟩ := hR
       obtain ⟨us, m1, m2, m3, m4⟩ := mp_of (P := P) hst q2
       have hl := repM_length m3
       refine ⟨.int .i64 es.length, w, _, H, K, ?_, Ext.refl _ _ _, hst.hs, by simp only [rep], q3⟩
       have hl2 : us.size = es.length := by simpa using hl
       simp [execOp, ho, resolve, hc, ha, ht, invoke, builtin, e1, Builtin.len_, run_underlying hu, goInt, m4, hl2]
   | _ => exact hR.elim
 | _ => exact hR.elim
theorem h_rng (hst : St D ν w0 K0 H0 N e H a w K μ) {T x x' kt el} (ho : o.op = .range T x) (hT : mapOf P T = some (kt, el)) (hx : okOpd ν x x' = true)
   {hs} (hh : e.hvs [x'] = some hs) {R : HV → Heap → Prop} (hR : mopK .rng hs H R) : HRun P ν K H a w o R := by
 obtain ⟨z1, h1, rfl⟩ := hvs_one hh
 have e1 := hv_sound hst hx h1
 have hu := mapOf_under hT
 cases z1 with
 | v xv =>
   cases xv with
   | map r =>
     simp only [rep] at e1
     cases r with
     | none =>
       obtain ⟨x1, x2⟩ := push_mo hst.hs (.mapIter none 0 #[] 0) (.it none 0 [] 0) rfl
       exact ⟨.pointer (some ⟨w.heap.size, 0, none⟩), w.alloc (.mapIter none 0 #[] 0), .v (.pointer (some ⟨w.heap.size, 0, none⟩)), _, K, by simp only [execOp, ho, e1, Sem.run_bind, run_range_nilMap w T kt el hu, Result.andThen_ok, Sem.run_pure], x1, x2, by simp [rep], hR w.heap.size (hst.hs.none_new (Nat.le_refl _))⟩
     | some b =>
       obtain ⟨es, c', q2, q3⟩ := hR
       obtain ⟨us, m1, m2, m3, m4⟩ := mp_of (P := P) hst q2
       obtain ⟨x1, x2⟩ := push_mo hst.hs (.mapIter (some b) c' #[] c') (.it (some b) c' [] c') rfl
       exact ⟨.pointer (some ⟨w.heap.size, 0, none⟩), w.alloc (.mapIter (some b) c' #[] c'), .v (.pointer (some ⟨w.heap.size, 0, none⟩)), _, K, by simp only [execOp, ho, e1, Sem.run_bind, run_range_map w T kt el b us c' hu m1, Result.andThen_ok, Sem.run_pure], x1, x2, by simp [rep], q3 w.heap.size (hst.hs.none_new (Nat.le_refl _))⟩
   | _ => exact hR.elim
 | _ => exact hR.elim
theorem run_choose_next (n : Nat) (hn : 0 < n) : ∃ (j : Nat) (w1 : World), j < n ∧ (w1 = w ∨ w1 = w.drew) ∧ (choose (Question.mapNext n)).run P w = .ok j w1 := by
 by_cases hf : n ≤ 1
 · exact ⟨0, w, by omega, .inl rfl, by simp [choose, Sem.run, Question.forced, hf]⟩
 · exact ⟨_, w.drew, Nat.mod_lt _ (by omega), .inr rfl, by
     simp only [choose, Sem.run, Question.forced, decide_eq_true_eq, hf, if_false, Question.cut]
     rfl⟩
theorem rep_nxt {e : MapEntry} {x : MEnt} {K' : Nat → Nat} {w' : World} (hk : x.1 = e.key) (hr : rep ν K' w' x.2.1 e.val) : rep ν K' w' (.tu [.v (.bool true), .v x.1, x.2.1]) (.tuple #[.bool true, e.key, e.val]) := by
 simp only [rep, repL]
 exact ⟨[.bool true, e.key, e.val], rfl, _, _, rfl, rfl, _, _, rfl, hk.symm, _, _, rfl, hr, rfl⟩
theorem h_nxt (hst : St D ν w0 K0 H0 N e H a w K μ) {x x'} (ho : o.op = .next x false) (hx : okOpd ν x x' = true)
   {hs} (hh : e.hvs [x'] = some hs) {R : HV → Heap → Prop} (hR : mopK .nxt hs H R) : HRun P ν K H a w o R := by
 obtain ⟨z1, h1, rfl⟩ := hvs_one hh
 have e1 := hv_sound hst hx h1
 have over : ∀ w1 : World, rep ν K w1 (.tu [.v (.bool false)]) (.tuple #[.bool false]) := fun w1 => by
   simp only [rep, repL]
   exact ⟨[.bool false], rfl, _, _, rfl, rfl, rfl⟩
 obtain ⟨b, rfl⟩ : ∃ b, z1 = .v (.pointer (some ⟨b, 0, none⟩)) := by
   unfold mopK at hR
   split at hR
   all_goals first | (rename_i h _; cases h; done) | (rename_i h; cases h; done) | skip
   all_goals first | exact hR.elim | skip
   all_goals rename_i hq; cases hq; exact ⟨_, rfl⟩
 simp only [rep] at e1
 simp only [mopK] at hR
 cases hb : H b with
 | none => rw [hb] at hR; exact hR.elim
 | some r =>
   rw [hb] at hR
   cases r with
   | obj _ => exact hR.elim
   | tip _ _ => exact hR.elim
   | mp _ _ => exact hR.elim
   | it m since seen last =>
     obtain ⟨i1, i2⟩ := hst.hs.res b _ hb
     have ig := run_getO (P := P) i1 (by simp)
     cases m with
     | none =>
       refine ⟨.tuple #[.bool false], w, _, H, K, ?_, Ext.refl _ _ _, hst.hs, over w, hR⟩
       simp [execOp, ho, e1, Instr.next, ig]
     | some m =>
       obtain ⟨es, c, q1, q2, q3, q4⟩ := hR
       obtain ⟨us, m1, m2, m3, m4⟩ := mp_of (P := P) hst q1
       have htest : (!(seen.toArray).isEmpty && !us.isEmpty && us.all (fun x => decide (x.born ≥ last))) = false := by
         rcases q2 with rfl | rfl | ⟨x, hx1, hx2⟩
         · simp
         · simp only [repM] at m3
           have : us = #[] := by simpa using m3
           subst this; simp
         · obtain ⟨y, hy1, _, hy3, _⟩ := repM_mem2 m3 hx1
           have : us.all (fun x => decide (x.born ≥ last)) = false := by
             rw [Bool.eq_false_iff]
             intro h
             rw [Array.all_eq_true_iff_forall_mem] at h
             have := h y (by simpa using hy1)
             simp at this
             omega
           rw [this, Bool.and_false]
       obtain ⟨L, hL⟩ : ∃ L, L = us.filter fun e => !seen.toArray.contains e.born := ⟨_, rfl⟩
       have hmem : ∀ y ∈ L, y ∈ us.toList ∧ y.born ∉ seen := fun y hy => by
         rw [hL] at hy
         simpa using hy
       obtain ⟨old, hold⟩ : ∃ old, old = L.filter fun e => decide (e.born < since) := ⟨_, rfl⟩
       obtain ⟨new, hnew⟩ : ∃ new, new = L.filter fun e => decide (e.born ≥ since) := ⟨_, rfl⟩
       obtain ⟨cs, hcs⟩ : ∃ cs, cs = (if old.isEmpty then #[(none : Option MapEntry)] else #[]) ++ (old ++ new).map some := ⟨_, rfl⟩
       have hpos : 0 < cs.size := by
         rw [hcs]
         cases ho : old.isEmpty with
         | true => simp; omega
         | false =>
           have h0 : 0 < old.size := by
             rcases Nat.eq_zero_or_pos old.size with h | h
             · simp [Array.isEmpty, h] at ho
             · exact h
           simp; omega
       obtain ⟨j, w1, hj, hw1, hrun⟩ := run_choose_next (P := P) (w := w) cs.size hpos
       have hx1 : Ext (quiet ν) w K H w1 K H ∧ hsat ν w1 K H := by
         rcases hw1 with rfl | rfl
         · exact ⟨Ext.refl _ _ _, hst.hs⟩
         · exact drew_ext hst.hs
       have hheap : w1.heap = w.heap := by rcases hw1 with rfl | rfl <;> rfl
       have hrun2 : ∀ (nx : Result Value), ((match cs[j]? with
           | some (some e) => (do setObj b (.mapIter (some m) since (seen.toArray.push e.born) c); pure (Value.tuple #[.bool true, e.key, e.val]) : Sem Value)
           | some none => pure (.tuple #[.bool false])
           | none => stuck "Next: no such candidate").run P w1) = nx → (Instr.next (.pointer (some ⟨b, 0, none⟩)) false o.type).run P w = nx := by
         intro nx hn
         simp only [Instr.next, Sem.run_bind, ig, Result.andThen_ok, m4, htest, Bool.false_eq_true, if_false]
         rw [← hL, ← hold, ← hnew, ← hcs, hrun]
         exact hn
       have hel : cs[j]? = some cs[j] := Array.getElem?_eq_getElem hj
       rw [hel] at hrun2
       have hin : cs[j] ∈ cs := Array.getElem_mem hj
       generalize cs[j] = y at hin hrun2
       have hyr : ∀ y', y = some y' → y' ∈ L := by
         rintro y' rfl
         rw [hcs] at hin
         have h3 : y' ∈ old ∨ y' ∈ new := by
           rcases Array.mem_append.mp hin with h | h
           · split at h <;> simp at h
           · simpa using h
         rcases h3 with h | h
         · rw [hold] at h; simp at h; exact h.1
         · rw [hnew] at h; simp at h; exact h.1
       cases y with
       | none =>
         have hemp : old.isEmpty = true := by
           rw [hcs] at hin
           rcases Array.mem_append.mp hin with h | h
           · split at h
             · assumption
             · simp at h
           · simp at h
         have h5 : ∀ x ∈ es, x.2.2 < since → x.2.2 ∈ seen := fun x hx hlt => by
           obtain ⟨y, hy1, _, hy3, _⟩ := repM_mem2 m3 hx
           rcases Classical.em (x.2.2 ∈ seen) with h | h
           · exact h
           · have h6 : y ∈ L := by rw [hL]; simp; exact ⟨by simpa using hy1, by rw [← hy3]; exact h⟩
             have h7 : y ∈ old := by rw [hold]; simp; exact ⟨h6, by omega⟩
             have : old = #[] := by simpa using hemp
             rw [this] at h7; simp at h7
         refine ⟨.tuple #[.bool false], w1, _, H, K, ?_, hx1.1, hx1.2, over w1, q4 h5⟩
         have := hrun2 (.ok (.tuple #[.bool false]) w1) rfl
         simp only [execOp, ho, e1, Sem.run_bind, this, Result.andThen_ok, Sem.run_pure]
       | some y =>
         obtain ⟨y1, y2⟩ := hmem y (hyr y rfl)
         obtain ⟨x, x1, x2, x3, x4⟩ := repM_mem m3 y1
         have hb1 : w1.heap[b]? = some (.mapIter (some m) since seen.toArray last) := by rw [hheap]; exact i1
         have hset := run_setO (P := P) (w := w1) hb1 (by simp) (o' := .mapIter (some m) since (seen.toArray.push y.born) c)
         obtain ⟨g1, g2⟩ := set_mo hx1.2 hb hb1 (by simp) i2 (.mapIter (some m) since (seen.toArray.push y.born) c) (.it (some m) since (seen ++ [x.2.2]) c) (by show _ = _; rw [x3]; simp)
         refine ⟨.tuple #[.bool true, y.key, y.val], _, _, _, K, ?_, hx1.1.trans g1, g2, rep_nxt x2 (x4.grow (hx1.1.trans g1).grow), q3 x x1 (by rw [x3]; exact y2)⟩
         have := hrun2 (.ok (.tuple #[.bool true, y.key, y.val]) (setB w1 b (.mapIter (some m) since (seen.toArray.push y.born) c))) (by show (Sem.run P ((do setObj b (.mapIter (some m) since (seen.toArray.push y.born) c); pure (Value.tuple #[.bool true, y.key, y.val]) : Sem Value)) w1) = _; simp only [Sem.run_bind, hset, Result.andThen_ok, Sem.run_pure])
         simp only [execOp, ho, e1, Sem.run_bind, this, Result.andThen_ok, Sem.run_pure]
theorem h_ent (hst : St D ν w0 K0 H0 N e H a w K μ) {x x'} (ho : o.op = .entry x) (hx : okOpd ν x x' = true)
   {hs} (hh : e.hvs [x'] = some hs) {R : HV → Heap → Prop} (hR : mopK .ent hs H R) : HRun P ν K H a w o R := by
 obtain ⟨z1, h1, rfl⟩ := hvs_one hh
 have e1 := hv_sound hst hx h1
 obtain ⟨b, rfl⟩ : ∃ b, z1 = .v (.pointer (some ⟨b, 0, none⟩)) := by
   unfold mopK at hR
   split at hR
   all_goals first | (rename_i h _; cases h; done) | (rename_i h; cases h; done) | skip
   all_goals first | exact hR.elim | skip
   all_goals rename_i hq; cases hq; exact ⟨_, rfl⟩
 simp only [rep] at e1
 simp only [mopK] at hR
 obtain ⟨m, since, seen, n, c, es, y, q1, q2, q3, q4⟩ := hR
 obtain ⟨i1, i2⟩ := hst.hs.res b _ q1
 have ig := run_getO (P := P) i1 (by simp)
 obtain ⟨us, m1, m2, m3, m4⟩ := mp_of (P := P) hst q2
 have hf : ∀ {es : List MEnt} {us : List MapEntry}, repM ν K w es us → es.find? (fun e => e.2.2 == n) = some y → ∃ z, us.find? (fun e => e.born == n) = some z ∧ y.1 = z.key ∧ rep ν K w y.2.1 z.val := by
   intro es
   induction es with
   | nil => intro us _ h; cases h
   | cons x es ih =>
     intro us hr h
     obtain ⟨u, us', rfl, g1, g2⟩ := hr
     rw [List.find?_cons] at h ⊢
     split at h
     · rename_i hx
       cases h
       exact ⟨⟨y.1, u, y.2.2⟩, by simp only [hx], rfl, g1⟩
     · rename_i hx
       simp only [hx]
       exact ih g2 h
 obtain ⟨z, z1, z2, z3⟩ := hf m3 q3
 have hb : (seen ++ [n]).toArray.back? = some n := by simp
 refine ⟨.tuple #[z.key, z.val], w, .tu [.v y.1, y.2.1], H, K, ?_, Ext.refl _ _ _, hst.hs, ?_, q4⟩
 · have hz : us.find? (fun e => e.born == n) = some z := by rw [← Array.find?_toList]; exact z1
   simp [execOp, ho, e1, Instr.entry, ig, m4, hz]
 · simp only [rep, repL]
   exact ⟨[z.key, z.val], rfl, _, _, rfl, z2.symm, _, _, rfl, z3, rfl⟩
theorem find_cln {fn : Func} (hn : fn.name = "maps.clone") (ho : fn.origin = "") : Extern.find fn = some Extern.MapsClone.clone ∧ Extern.findNext fn = none := by
 unfold Extern.find Extern.findNext
 rw [hn, ho]
 constructor
 · have h1 : Extern.allGenericRows.lookup "maps.clone" = none := by kernel_rfl
   have h2 : Extern.allTypedRows.lookup "maps.clone" = none := by kernel_rfl
   have h3 : Extern.allRows.lookup "maps.clone" = some Extern.MapsClone.clone := by kernel_rfl
   simp only [h1, h2, h3]; rfl
 · have h1 : Extern.allNextRows.lookup "maps.clone" = none := by kernel_rfl
   have h2 : Extern.allNextRows.lookup "" = none := by kernel_rfl
   simp only [h1, h2]; rfl
theorem h_cln (hst : St D ν w0 K0 H0 N e H a w K μ) {c : Call} {n x x'} (ho : o.op = .call c) (hc : c.callee = .value (.func n)) (hargs : c.args.toList = [x]) (hf : isExt P n "maps.clone" "" = true) (hx : okOpd ν x x' = true)
   {hs} (hh : e.hvs [x'] = some hs) {R : HV → Heap → Prop} (hR : mopK .cln hs H R) : HRun P ν K H a w o R := by
 obtain ⟨z1, h1, rfl⟩ := hvs_one hh
 have e1 := hv_sound hst hx h1
 have ha := arr1 hargs
 obtain ⟨fn, f1, f2, f3, f4⟩ := isExt_fn hf
 obtain ⟨g1, g2⟩ := find_cln f2 f3
 cases z1 with
 | v xv =>
   cases xv with
   | iface t y =>
     cases y with
     | map m =>
       cases m with
       | none => exact hR.elim
       | some m =>
         obtain ⟨es, cl, q1, q2⟩ := hR
         obtain ⟨us, m1, m2, m3, m4⟩ := mp_of (P := P) hst q1
         simp only [rep] at e1
         have hr := run_callFunc_extern (P := P) f1 (by rw [f2]; decide) f4 g2 g1 #[.iface t (.map (some m))] w
         have hcl : (Extern.MapsClone.clone #[.iface t (.map (some m))]).run P w = .ok (.iface t (.map (some w.heap.size))) (w.alloc (.map us cl)) := by
           have e0 : Extern.MapsClone.clone #[.iface t (.map (some m))] = ((getObj m).bind fun ob => match ob with
             | .map entries clock => (newObj (.map entries clock)).bind fun r => .pure (Value.iface t (.map (some r)))
             | _ => stuck "maps.clone: a map expected") := rfl
           rw [e0]
           show (Sem.run P (getObj m >>= _) w) = _
           rw [Sem.run_bind, m4]
           rfl
         rw [hcl] at hr
         obtain ⟨x1, x2⟩ := push_mo hst.hs (.map us cl) (.mp es cl) ⟨us, rfl, m3⟩
         refine ⟨.iface t (.map (some w.heap.size)), _, .v (.iface t (.map (some w.heap.size))), _, K, ?_, x1, x2, by simp only [rep], q2 w.heap.size (hst.hs.none_new (Nat.le_refl _))⟩
         simp only [Result.andThen] at hr
         have hfn : a.eval (.func n) = .func (.func n) #[] #[] := rfl
         simp [execOp, ho, resolve, hc, ha, hfn, Deferred.ofValue, invoke, e1, hr]
     | _ => exact hR.elim
   | _ => exact hR.elim
 | _ => exact hR.elim
theorem h_mki (hst : St D ν w0 K0 H0 N e H a w K μ) {T x x'} (ho : o.op = .makeInterface T x) (hT : (P.underlying T).isSome = true) (hi : isIfc P T = false) (hx : okOpd ν x x' = true)
   {hs} (hh : e.hvs [x'] = some hs) {R : HV → Heap → Prop} (hR : mopK (.mki T) hs H R) : HRun P ν K H a w o R := by
 obtain ⟨z1, h1, rfl⟩ := hvs_one hh
 have e1 := hv_sound hst hx h1
 obtain ⟨d, hu⟩ := Option.isSome_iff_exists.mp hT
 cases z1 with
 | v xv =>
   simp only [rep] at e1
   refine ⟨.iface T xv, w, .v (.iface T xv), H, K, ?_, Ext.refl _ _ _, hst.hs, by simp only [rep], hR⟩
   simp only [isIfc, hu] at hi
   cases d <;> first | (simp [execOp, ho, e1, Instr.makeInterface, run_underlying hu]; done) | (simp at hi)
 | _ => exact hR.elim
theorem h_tas (hst : St D ν w0 K0 H0 N e H a w K μ) {T x xt x'} (ho : o.op = .typeAssert x xt T false) (hT : (P.underlying T).isSome = true) (hi : isIfc P T = false) (hx : okOpd ν x x' = true)
   {hs} (hh : e.hvs [x'] = some hs) {R : HV → Heap → Prop} (hR : mopK (.tas T) hs H R) : HRun P ν K H a w o R := by
 obtain ⟨z1, h1, rfl⟩ := hvs_one hh
 have e1 := hv_sound hst hx h1
 obtain ⟨d, hu⟩ := Option.isSome_iff_exists.mp hT
 cases z1 with
 | v xv =>
   cases xv with
   | iface t y =>
     obtain ⟨rfl, q⟩ := hR
     simp only [rep] at e1
     refine ⟨y, w, .v y, H, K, ?_, Ext.refl _ _ _, hst.hs, by simp only [rep], q⟩
     simp only [isIfc, hu] at hi
     cases d <;> first | (simp [execOp, ho, e1, Instr.typeAssert, run_underlying hu]; done) | (simp at hi)
   | _ => exact hR.elim
 | _ => exact hR.elim
theorem h_isnilm (hst : St D ν w0 K0 H0 N e H a w K μ) {ne : Bool} {t : TypeId} {x : Operand} {yt : TypeId} {x' : Opd} {kt el : TypeId} (ho : o.op = .binOp (if ne then .neq else .eql) t x (.const (.map none)) yt) (hT : mapOf P t = some (kt, el)) (hx : okOpd ν x x' = true)
   {hs} (hh : e.hvs [x'] = some hs) {R : HV → Heap → Prop} (hR : mopK (.isnil ne) hs H R) : HRun P ν K H a w o R := by
 obtain ⟨z1, h1, rfl⟩ := hvs_one hh
 have e1 := hv_sound hst hx h1
 have hu := mapOf_under hT
 cases z1 with
 | v xv =>
   cases xv with
   | map m =>
     simp only [rep] at e1
     refine ⟨.bool (if ne then m.isSome else m.isNone), w, .v (.bool (if ne then m.isSome else m.isNone)), H, K, ?_, Ext.refl _ _ _, hst.hs, by simp only [rep], hR⟩
     have h1 : (Op.equal t (.map m) (.map none)).run P w = .ok m.isNone w := by
       have h0 : ∀ d, (Op.equalIn (d + 1) t (.map m) (.map none)).run P w = .ok m.isNone w := by
         intro d; cases m <;> simp [Op.equalIn, run_underlying hu]
       exact h0 9999
     have e2 : a.eval (.const (.map none)) = .map none := rfl
     have g : ∀ op, eqGuard op t x (.const (.map none)) (.map m) (.map none) = pure () := fun op => by cases op <;> rfl
     have b1 : binOp .eql t (.map m) (.map none) = (do pure (.bool (← Op.equal t (.map m) (.map none)))) := rfl
     have b2 : binOp .neq t (.map m) (.map none) = (do pure (.bool (!(← Op.equal t (.map m) (.map none))))) := rfl
     cases ne <;> cases m <;> simp [execOp, ho, e1, e2, g, b1, b2, h1]
   | _ => exact hR.elim
 | _ => exact hR.elim
theorem hvs_length : ∀ (qs : List Opd) (hs : List HV), e.hvs qs = some hs → hs.length = qs.length
 | [], hs, h => by simp [Env.hvs] at h; subst h; rfl
 | q :: qs, hs, h => by
   simp only [Env.hvs] at h
   split at h
   · rename_i g gs _ hg
     simp only [Option.some.injEq] at h; subst h
     simp [hvs_length qs gs hg]
   · cases h
theorem h_bldA (hst : St D ν w0 K0 H0 N e H a w K μ) {T ps sz qs el z} {len : Nat} (ho : o.op = .build T ps) (hT : arrOf P T = some (len, el)) (hsz : szOf P el = some sz) (hlq : len = qs.length)
   (hz : (P.info? T).bind (·.zero) = some z) (hzs : z.cells.size = len * sz) (hps : okSeq ν 0 ps.toList qs = true)
   {hs'} (hh : e.hvs qs = some hs') {R : HV → Heap → Prop} (hR : mopK (.bldA sz) hs' H R) : HRun P ν K H a w o R := by
 have hu := arrOf_under hT
 obtain ⟨i, hi, hzi⟩ := Option.bind_eq_some_iff.1 hz
 obtain ⟨h1, h2, h3⟩ : hs'.all HV.el = true ∧ (∀ h ∈ hs', h.ncells = sz) ∧ R (.ag (hs'.flatMap HV.cells)) H := hR
 have hl' := hvs_length qs hs' hh
 obtain ⟨us', vals, g1, g2, g3⟩ := fill_seq (sz := sz) hst ps.toList qs 0 z.cells hs' hps hh h1 h2 (by rw [hzs, hl', ← hlq, Nat.zero_add]; exact Nat.le_refl _)
 have hfl := flat_length g2 h1 h2
 have hus : us'.toList = flat vals := by
   rw [g3, Nat.zero_mul, setL_eq _ _ _ (by simp [hfl, hl', ← hlq, hzs])]
   rw [List.take_zero, List.nil_append, List.drop_eq_nil_of_le (by simp [hfl, hl', ← hlq, hzs]), List.append_nil]
 obtain ⟨c1, c2⟩ := rep_flat g2 h1
 refine ⟨.agg us', w, .ag (hs'.flatMap HV.cells), H, K, ?_, Ext.refl _ _ _, hst.hs, ?_, h3⟩
 · simp only [execOp, ho, Instr.build, Sem.run_bind, run_underlying hu, Result.andThen_ok, run_sizeOf hsz, zeroValue, typeInfo, run_program, hi, hzi, Sem.run_pure, Array.toList_map, g1]
 · simp only [rep]
   exact ⟨us'.toList, by simp, c2, by rw [hus]; exact c1⟩
theorem h_idxA (hst : St D ν w0 K0 H0 N e H a w K μ) {T x i n sz agg x' i' el} (ho : o.op = .index T x i) (hT : arrOf P T = some (n, el)) (hsz : szOf P el = some sz) (ha : aggOf P el = some agg) (h1 : (agg || decide (sz = 1)) = true) (hx : okOpd ν x x' = true) (hi : okOpd ν i i' = true)
   {hs} (hh : e.hvs [x', i'] = some hs) {R : HV → Heap → Prop} (hR : mopK (.idxA n sz agg) hs H R) : HRun P ν K H a w o R := by
 obtain ⟨z1, z2, q1, q2, rfl⟩ := hvs_two hh
 have e1 := hv_sound hst hx q1
 have e2 := hv_sound hst hi q2
 have hu := arrOf_under hT
 cases z1 with
 | ag cs =>
   cases z2 with
   | v iv =>
     cases iv with
     | int k j =>
       obtain ⟨r1, r2, h, r3, r4⟩ := hR
       simp only [rep] at e1 e2
       obtain ⟨us, g1, g2, g3⟩ := e1
       obtain ⟨u, hu1, hu2⟩ := run_part (P := P) hsz ha h1 g3 g2 r3
       refine ⟨u, w, h, H, K, ?_, Ext.refl _ _ _, hst.hs, hu2, r4⟩
       simp [execOp, ho, g1, e2, Instr.index, asIntOf, run_underlying hu, r1, r2, run_sizeOf hsz, hu1]
     | _ => exact hR.elim
   | _ => exact hR.elim
 | _ => exact (by first | exact hR.elim | (cases z2 <;> exact hR.elim))
theorem h_mkm (hst : St D ν w0 K0 H0 N e H a w K μ) {f first caps g r r'} (ho : o.op = .makeFunc (.func f) first caps) (hf : first.toList = [r]) (hc : caps.isEmpty = true) (hg : fnat ν f g) (hx : okOpd ν r r' = true)
   {hs} (hh : e.hvs [r'] = some hs) {R : HV → Heap → Prop} (hR : mopK (.mkm g) hs H R) : HRun P ν K H a w o R := by
 obtain ⟨z1, h1, rfl⟩ := hvs_one hh
 have e1 := hv_sound hst hx h1
 have hf' := arr1 hf
 have hc' : caps = #[] := by simpa using hc
 subst hf' hc'
 refine ⟨.func (.func f) #[a.eval r] #[], w, .fm g z1, H, K, ?_, Ext.refl _ _ _, hst.hs, ?_, hR⟩
 · simp [execOp, ho, Instr.makeFunc]
 · simp only [rep]
   exact ⟨f, a.eval r, hg, rfl, e1⟩
theorem h_mop (hst : St D ν w0 K0 H0 N e H a w K μ) {f : MOp} {xs : List Opd} (hk : chkMop P ν o.op f xs = true) {hs} (hh : e.hvs xs = some hs) {R : HV → Heap → Prop} (hR : mopK f hs H R) : HRun P ν K H a w o R ∨ HRunS P ν K H a w o R := by
 unfold chkMop at hk
 split at hk
 · rename_i ho
   have : hs = [] := by simpa [Env.hvs] using hh.symm
   subst this
   exact .inl (h_mk hst ho hR)
 · rename_i ho
   simp only [Bool.and_eq_true, decide_eq_true_eq] at hk
   obtain ⟨⟨⟨k1, k2⟩, k3⟩, k4⟩ := hk
   subst k1
   split at k2
   · rename_i kt el hT
     simp only [Bool.and_eq_true] at k2
     exact .inl (h_lkp hst ho hT k2.1 k2.2 k3 k4 hh hR)
   · cases k2
 · rename_i ho
   simp only [Bool.and_eq_true] at hk
   obtain ⟨⟨⟨k1, k2⟩, k3⟩, k4⟩ := hk
   split at k1
   · rename_i kt el hT
     exact .inr (h_upd hst (.inl ho) hT k1 k2 k3 k4 hh hR)
   · cases k1
 · rename_i ho
   simp only [Bool.and_eq_true] at hk
   obtain ⟨⟨⟨k1, k2⟩, k3⟩, k4⟩ := hk
   split at k1
   · rename_i kt el hT
     exact .inr (h_upd hst (.inr ho) hT k1 k2 k3 k4 hh hR)
   · cases k1
 · rename_i ho
   split at hk
   · rename_i hc ha ht
     simp only [Bool.and_eq_true] at hk
     obtain ⟨⟨k1, k2⟩, k3⟩ := hk
     split at k1
     · rename_i kt el hT
       exact .inl (h_del hst ho hc ha ht hT k1 k2 k3 hh hR)
     · cases k1
   · cases hk
 · rename_i ho
   split at hk
   · rename_i hc ha ht
     simp only [Bool.and_eq_true] at hk
     obtain ⟨p, hp⟩ := Option.isSome_iff_exists.mp hk.1
     exact .inl (h_mlen hst ho hc ha ht (kt := p.1) (el := p.2) hp hk.2 hh hR)
   · cases hk
 · rename_i ho
   simp only [Bool.and_eq_true] at hk
   obtain ⟨p, hp⟩ := Option.isSome_iff_exists.mp hk.1
   exact .inl (h_rng hst ho (kt := p.1) (el := p.2) hp hk.2 hh hR)
 · rename_i x s x' ho
   simp only [Bool.and_eq_true, Bool.not_eq_true'] at hk
   obtain ⟨k1, k2⟩ := hk
   subst k1
   exact .inl (h_nxt hst ho k2 hh hR)
 · rename_i ho
   exact .inl (h_ent hst ho hk hh hR)
 · rename_i ho
   split at hk
   · rename_i hc ha
     simp only [Bool.and_eq_true] at hk
     exact .inl (h_cln hst ho hc ha hk.1 hk.2 hh hR)
   · cases hk
 · rename_i ho
   simp only [Bool.and_eq_true, decide_eq_true_eq, Bool.not_eq_true'] at hk
   obtain ⟨⟨⟨rfl, k2⟩, k3⟩, k4⟩ := hk
   exact .inl (h_mki hst ho k2 k3 k4 hh hR)
 · rename_i ho
   simp only [Bool.and_eq_true, decide_eq_true_eq, Bool.not_eq_true'] at hk
   obtain ⟨⟨⟨⟨rfl, k1⟩, k2⟩, k3⟩, k4⟩ := hk
   subst k1
   exact .inl (h_tas hst ho k2 k3 k4 hh hR)
 · rename_i ho
   simp only [Bool.and_eq_true, decide_eq_true_eq] at hk
   obtain ⟨⟨⟨rfl, k1⟩, k2⟩, k3⟩ := hk
   obtain ⟨p, hp⟩ := Option.isSome_iff_exists.mp k2
   split at k1
   · exact .inl (h_isnilm hst ho (kt := p.1) (el := p.2) hp k3 hh hR)
   · cases k1
 · rename_i ho
   simp only [Bool.and_eq_true, decide_eq_true_eq] at hk
   obtain ⟨⟨k1, k2⟩, k3⟩ := hk
   split at k1
   · rename_i r hr
     exact .inl (h_mkm hst ho hr k2 k3 k1 hh hR)
   · cases k1
 · rename_i ho
   split at hk
   · rename_i n el hT
     simp only [Bool.and_eq_true, decide_eq_true_eq] at hk
     obtain ⟨⟨⟨k1, k2⟩, k3⟩, k4⟩ := hk
     split at k3
     · rename_i z hz
       exact .inl (h_bldA hst ho hT k1 k2 hz (by simpa using k3) k4 hh hR)
     · cases k3
   · cases hk
 · rename_i ho
   simp only [Bool.and_eq_true] at hk
   obtain ⟨⟨k1, k2⟩, k3⟩ := hk
   split at k1
   · rename_i m el hT
     simp only [Bool.and_eq_true, decide_eq_true_eq] at k1
     obtain ⟨⟨⟨rfl, k4⟩, k5⟩, k6⟩ := k1
     exact .inl (h_idxA hst ho hT k4 k5 k6 k2 k3 hh hR)
   · cases k1
 · cases hk
end
end Sm
namespace Sm
open Go
section
variable {P : Program} {D : List (Nat × List HV)} {ν : Nat → Option Nat} {w0 : World} {K0 : Nat → Nat} {H0 : Heap} {N : Nat} {e : Env} {H : Heap} {a : Act} {w : World} {K μ : Nat → Nat} {o : Oper}
theorem made_flat {α : Type} [Inhabited α] (z : Array α) (sz : Nat) (hz : z.size = sz) : ∀ c : Nat, (List.range (c * sz)).map (fun i => z[i % sz]!) = (List.replicate c z.toList).flatten
 | 0 => by simp
 | c + 1 => by
   have ih := made_flat z sz hz c
   rw [Nat.succ_mul, List.range_add, List.map_append, ih, List.replicate_succ', List.flatten_append]
   congr 1
   simp only [List.map_map, List.flatten_cons, List.flatten_nil, List.append_nil]
   apply List.ext_getElem
   · simp [hz]
   · intro i h1 h2
     simp only [List.length_map, List.length_range] at h1
     have : (c * sz + i) % sz = i := by rw [Nat.add_comm, Nat.add_mul_mod_self_right, Nat.mod_eq_of_lt h1]
     simp only [List.getElem_map, List.getElem_range, Function.comp, this, Array.getElem_toList]
     rw [getElem!_pos z i (by omega)]
theorem repL_flatten {cs : List HV} {us : List Value} (h : repL ν K w cs us) : ∀ n, repL ν K w (List.replicate n cs).flatten (List.replicate n us).flatten
 | 0 => by simp [repL]
 | n + 1 => by
   simp only [List.replicate_succ, List.flatten_cons]
   exact repL_append h (repL_flatten h n)
theorem all_flatten {cs : List HV} (h : cs.all HV.one = true) : ∀ n, (List.replicate n cs).flatten.all HV.one = true
 | 0 => rfl
 | n + 1 => by simp only [List.replicate_succ, List.flatten_cons, List.all_append, h, all_flatten h n, Bool.and_self]
theorem okEl_info {el : TypeId} {sz bytes : Nat} {zero : List HV} (h : okEl P el sz bytes zero = true) : ∃ i z, P.info? el = some i ∧ i.size = sz ∧ i.bytes = bytes ∧ 0 < sz ∧ 0 < bytes ∧ i.zero = some z ∧ zeq z.cells.toList zero = true ∧ z.cells.size = sz := by
 unfold okEl at h
 split at h
 · rename_i i hi
   simp only [Bool.and_eq_true, decide_eq_true_eq] at h
   obtain ⟨⟨⟨⟨h1, h2⟩, h3⟩, h4⟩, h5⟩ := h
   split at h5
   · rename_i z hz
     simp only [Bool.and_eq_true, decide_eq_true_eq] at h5
     exact ⟨i, z, hi, h1, h2, h3, h4, hz, h5.1, h5.2⟩
   · cases h5
 · cases h
theorem h_mks (hst : St D ν w0 K0 H0 N e H a w K μ) {T l c sz bytes zero l' c' el} (ho : o.op = .makeSlice T l c) (hT : Sm.elemOf P T = some el) (hel : okEl P el sz bytes zero = true) (hl : okOpd ν l l' = true) (hc : okOpd ν c c' = true)
   {hs} (hh : e.hvs [l', c'] = some hs) {R : HV → Heap → Prop} (hR : hopK (.mks sz bytes zero) hs H R) : HRun P ν K H a w o R := by
 obtain ⟨z1, z2, h1, h2, rfl⟩ := hvs_two hh
 have e1 := hv_sound hst hl h1
 have e2 := hv_sound hst hc h2
 have hu := elemOf_under hT
 obtain ⟨i, z, i1, i2, i3, i4, i5, i6, i7, i8⟩ := okEl_info hel
 unfold hopK at hR
 split at hR
 all_goals first | (rename_i h _; cases h; done) | (rename_i h; cases h; done) | skip
 · rename_i sz' bytes' zero' ln cn hf hl
   injection hf with f1 f2 f3
   subst f1 f2 f3
   simp only [List.cons.injEq, and_true] at hl
   obtain ⟨rfl, rfl⟩ := hl
   simp only [rep] at e1 e2
   obtain ⟨r1, r2, r3, r4, r5⟩ := hR
   have hbn : cn.toNat * bytes ≤ 140737488355328 := by
     have : ((cn.toNat * bytes : Nat) : Int) ≤ 140737488355328 := by rw [Int.natCast_mul, Int.toNat_of_nonneg (by omega)]; exact r3
     omega
   have hcn : cn.toNat ≤ 140737488355328 := Nat.le_trans (Nat.le_mul_of_pos_right _ i5) hbn
   have hr := run_make (P := P) w T el i z hu i1 i6 .i64 .i64 ln cn r1 r2 (by rw [i3, Int.mul_comm]; omega) (by omega)
   have hrun : (execOp a.eval o).run P w = .ok (.value (.slice (some ⟨w.heap.size, 0, none⟩) ln.toNat cn.toNat)) (w.alloc (.cells (madeCells z.cells (cn.toNat * i.size)) el)) := by
     simp only [execOp, ho, e1, e2, Sem.run_bind, hr, Result.andThen_ok, Sem.run_pure]
   obtain ⟨q1, q2⟩ := zeq_rep (ν := ν) (K := K) (w := w) i7
   have hmade : (madeCells z.cells (cn.toNat * i.size)).toList = (List.replicate cn.toNat z.cells.toList).flatten := by
     rw [← made_flat z.cells sz i8 cn.toNat, i2]
     simp [madeCells, i8]
   obtain ⟨x1, x2⟩ := push_obj hst.hs (madeCells z.cells (cn.toNat * i.size)) el (List.replicate cn.toNat zero).flatten (by rw [hmade]; exact repL_flatten q1 _) (all_flatten q2 _)
   exact ⟨_, _, _, _, _, hrun, x1, x2, by simp [rep], r5 w.heap.size (hst.hs.none_new (Nat.le_refl _))⟩
 all_goals exact hR.elim
theorem h_copy (hst : St D ν w0 K0 H0 N e H a w K μ) {c : Call} {x y t t' sz x' y' el} (ho : o.op = .call c) (hc : c.callee = .builtin .copy) (hargs : c.args.toList = [x, y]) (hts : c.argTypes.toList = [t, t'])
   (hT : Sm.elemOf P t = some el) (hsz : szOf P el = some sz) (hx : okOpd ν x x' = true) (hy : okOpd ν y y' = true)
   {hs} (hh : e.hvs [x', y'] = some hs) {R : HV → Heap → Prop} (hR : hopK (.copy sz) hs H R) : HRun P ν K H a w o R := by
 obtain ⟨z1, z2, h1, h2, rfl⟩ := hvs_two hh
 have e1 := hv_sound hst hx h1
 have e2 := hv_sound hst hy h2
 have hu := elemOf_under hT
 have ha := arr2 hargs
 have ht := arr2 hts
 unfold hopK at hR
 split at hR
 all_goals first | (rename_i h _; cases h; done) | (rename_i h; cases h; done) | skip
 · rename_i sz' b off n cc y0 hf hl
   injection hf with f1
   subst f1
   simp only [List.cons.injEq, and_true] at hl
   obtain ⟨rfl, rfl⟩ := hl
   simp only [rep] at e1
   split at hR
   · rename_i m ys cs hrd hb
     obtain ⟨r1, r2⟩ := hR
     obtain ⟨news, src, n1, n2⟩ := rdm_src (P := P) hst.hs e2 hrd
     have hk := src.cells (min m n) (Nat.min_le_left _ _)
     have hlen : (news.take (min m n * sz)).length = min m n * sz := by
       rw [List.length_take, src.newsLen]
       exact Nat.min_eq_left (Nat.mul_le_mul_right _ (Nat.min_le_left _ _))
     have hle : off + (news.take (min m n * sz)).length ≤ cs.length := by
       rw [hlen]
       have := Nat.mul_le_mul_right sz (Nat.min_le_right m n)
       omega
     obtain ⟨w', s1, s2, s3⟩ := write_obj (P := P) hst.hs hb (ns := ys.take (min m n * sz)) (vs := news.take (min m n * sz)) (off := off) hle (repL_take _ n1) (by
       rw [List.all_eq_true] at n2 ⊢
       exact fun q hq => n2 q (List.mem_of_mem_take hq))
     have s1' := s1 0 rfl
     have hmin : Nat.min m n = min m n := rfl
     have hrun : (execOp a.eval o).run P w = .ok (.value (.int .i64 ((min m n : Nat) : Int))) w' := by
       simp [execOp, ho, resolve, hc, ha, ht, invoke, builtin, e1, Builtin.copy_, run_underlying hu, src.len, run_sizeOf hsz, hmin, hk, s1', goInt]
     exact ⟨_, w', _, _, _, hrun, s2, s3, by simp [rep], r2⟩
   · exact hR.elim
 all_goals exact hR.elim
theorem h_clear (hst : St D ν w0 K0 H0 N e H a w K μ) {c : Call} {x t sz x' el bytes zero} (ho : o.op = .call c) (hc : c.callee = .builtin .clear) (hargs : c.args.toList = [x]) (hts : c.argTypes.toList = [t])
   (hT : Sm.elemOf P t = some el) (hel : okEl P el sz bytes zero = true) (hx : okOpd ν x x' = true)
   {hs} (hh : e.hvs [x'] = some hs) {R : HV → Heap → Prop} (hR : hopK (.clear sz zero) hs H R) : HRun P ν K H a w o R := by
 obtain ⟨z1, h1, rfl⟩ := hvs_one hh
 have e1 := hv_sound hst hx h1
 have hu := elemOf_under hT
 have ha := arr1 hargs
 have ht := arr1 hts
 obtain ⟨i, z, i1, i2, i3, i4, i5, i6, i7, i8⟩ := okEl_info hel
 obtain ⟨q1, q2⟩ := zeq_rep (ν := ν) (K := K) (w := w) i7
 unfold hopK at hR
 split at hR
 all_goals first | (rename_i h _; cases h; done) | (rename_i h; cases h; done) | skip
 · rename_i sz' zero' b off n cc hf hl
   injection hf with f1 f2
   subst f1 f2
   simp only [List.cons.injEq, and_true] at hl
   subst hl
   simp only [rep] at e1
   split at hR
   · rename_i cs hb
     obtain ⟨r1, r2, r3⟩ := hR
     have hzl : (List.replicate n z.cells.toList).flatten.length = n * sz := by simp [i8]
     obtain ⟨w', s1, s2, s3⟩ := write_obj (P := P) hst.hs hb (ns := (List.replicate n zero).flatten) (vs := (List.replicate n z.cells.toList).flatten) (off := off) (by rw [hzl]; exact r1) (repL_flatten q1 _) (all_flatten q2 _)
     have s1' := s1 0 rfl
     have hzc : (Builtin.zeroCells z.cells n).toList = (List.replicate n z.cells.toList).flatten := by
       rw [← made_flat z.cells sz i8 n]
       simp [Builtin.zeroCells, i8]
     cases n with
     | zero =>
       have hw : w' = w := by
         simp [storeCells] at s1'
         exact s1'.symm
       subst hw
       have hrun : (execOp a.eval o).run P w' = .ok (.value (.tuple #[])) w' := by
         simp [execOp, ho, resolve, hc, ha, ht, invoke, builtin, e1, Builtin.clear_, run_underlying hu]
       exact ⟨_, w', _, _, _, hrun, s2, s3, by simp [rep, repL], r3⟩
     | succ n =>
       have hrun : (execOp a.eval o).run P w = .ok (.value (.tuple #[])) w' := by
         simp [execOp, ho, resolve, hc, ha, ht, invoke, builtin, e1, Builtin.clear_, run_underlying hu, zeroValue, typeInfo, i1, i6, hzc, s1']
       exact ⟨_, w', _, _, _, hrun, s2, s3, by simp [rep, repL], r3⟩
   · exact hR.elim
 · rename_i sz' zero' hf hl
   simp only [List.cons.injEq, and_true] at hl
   subst hl
   simp only [rep] at e1
   have hrun : (execOp a.eval o).run P w = .ok (.value (.tuple #[])) w := by
     simp [execOp, ho, resolve, hc, ha, ht, invoke, builtin, e1, Builtin.clear_, run_underlying hu]
   exact ⟨_, w, _, _, _, hrun, Ext.refl _ _ _, hst.hs, by simp [rep, repL], hR⟩
 all_goals exact hR.elim
theorem find_ovl {fn : Func} (hn : fn.name = "slices.overlaps[sumpter/api.Entry]") (ho : fn.origin = "slices.overlaps") : Extern.find fn = some (Extern.SlicesOverlaps.overlaps fn.params fn.resultTypes) ∧ Extern.findNext fn = none := by
 unfold Extern.find Extern.findNext
 rw [hn, ho]
 constructor
 · have h1 : Extern.allGenericRows.lookup "slices.overlaps[sumpter/api.Entry]" = none := by kernel_rfl
   have h2 : Extern.allTypedRows.lookup "slices.overlaps[sumpter/api.Entry]" = none := by kernel_rfl
   have h3 : Extern.allRows.lookup "slices.overlaps[sumpter/api.Entry]" = none := by kernel_rfl
   have h4 : Extern.allGenericRows.lookup "slices.overlaps" = none := by kernel_rfl
   have h5 : Extern.allTypedRows.lookup "slices.overlaps" = some Extern.SlicesOverlaps.overlaps := by kernel_rfl
   simp only [h1, h2, h3, h4, h5]; rfl
 · have h1 : Extern.allNextRows.lookup "slices.overlaps[sumpter/api.Entry]" = none := by kernel_rfl
   have h2 : Extern.allNextRows.lookup "slices.overlaps" = none := by kernel_rfl
   simp only [h1, h2]; rfl
theorem run_ovl (w : World) (ps rs : Array TypeId) (tS e : TypeId) (hp : ps[0]? = some tS) (ht : P.underlying tS = some (.slice e)) (size : Nat) (hz : ∀ w, (Go.sizeOf e).run P w = .ok size w)
   (a b : Addr) (la ca lb cb : Nat) (hne : a.block ≠ b.block) (tA tB : TypeId) (kA kB : Nat)
   (hsa : w.shape? a.block = some (tA, kA)) (hsb : w.shape? b.block = some (tB, kB)) (hkA : kA ≠ 0)
   (hfb : w.frozen? b = false) (hfe : w.frozen? { block := b.block, off := kB } = false) :
   (Extern.SlicesOverlaps.overlaps ps rs #[.slice (some a) la ca, .slice (some b) lb cb]).run P w = .ok (.bool false) w := by
 have hnb : (a.block != b.block) = true := by simpa using hne
 have hnb' : (a.block == b.block) = false := by simpa using hne
 change Sem.run P (α := Value) (do
   let some t := ps[0]? | stuck "slices.overlaps: no parameter types"
   let .slice elem ← underlying t | stuck "slices.overlaps: slice type expected"
   let size ← Go.sizeOf elem
   match (some a : Option Addr), (some b : Option Addr) with
   | some a, some b =>
     if la = 0 ∨ lb = 0 ∨ size = 0 then pure (Value.bool false)
     else if a.block != b.block && (← frozen a) && (← frozen b) then unsupported .addressObserved
     else do
       if a.block != b.block then do
         noView a; noView b
         if ← mayBeOne a b then return Value.bool ((← choose (.extern "sameAddr.stringBytes" 2)) == 1)
       pure (Value.bool (a.block == b.block && a.off < b.off + lb * size && b.off < a.off + la * size))
   | _, _ => pure (Value.bool false)) w = _
 by_cases h0 : la = 0 ∨ lb = 0 ∨ size = 0
 · simp [hp, run_underlying ht, hz, h0]
 · cases kA with
   | zero => exact absurd rfl hkA
   | succ kA =>
     cases hfa : w.frozen? a <;> cases hsA : w.frozen? { block := a.block, off := kA + 1 } <;>
       simp [hp, run_underlying ht, hz, h0, hnb, hnb', frozen, noView, viewAt, mayBeOne, stringish, shape, Sem.run, hsa, hsb, hfa, hsA, hfb, hfe]
theorem h_ovl (hst : St D ν w0 K0 H0 N e H a w K μ) {c : Call} {n x y sz x' y' fn t el} (ho : o.op = .call c) (hc : c.callee = .value (.func n)) (hargs : c.args.toList = [x, y]) (hf : P.funcs[n]? = some fn)
   (hn : fn.name = "slices.overlaps[sumpter/api.Entry]") (hor : fn.origin = "slices.overlaps") (hb : fn.body.isNone = true) (hp : fn.params[0]? = some t) (hT : Sm.elemOf P t = some el) (hsz : szOf P el = some sz)
   (hx : okOpd ν x x' = true) (hy : okOpd ν y y' = true) {hs} (hh : e.hvs [x', y'] = some hs) {R : HV → Heap → Prop} (hR : hopK (.ovl sz) hs H R) : HRun P ν K H a w o R := by
 obtain ⟨z1, z2, h1, h2, rfl⟩ := hvs_two hh
 have e1 := hv_sound hst hx h1
 have e2 := hv_sound hst hy h2
 have hu := elemOf_under hT
 have ha := arr2 hargs
 obtain ⟨g1, g2⟩ := find_ovl hn hor
 unfold hopK at hR
 split at hR
 all_goals first | (rename_i h _; cases h; done) | (rename_i h; cases h; done) | skip
 · rename_i sz0 tk sz' es b off m cc hf2 hl
   injection hf2 with f1
   subst f1
   simp only [List.cons.injEq, and_true] at hl
   obtain ⟨rfl, rfl⟩ := hl
   obtain ⟨r1, rfl, r3, ⟨cs, hcs⟩, r4⟩ := hR
   simp only [rep] at e1 e2
   obtain ⟨A, cap, vals, q1, q2, q3, q4, q5, q6, q7, q8⟩ := e1
   rcases q8 with q8 | ⟨b1, off1, rfl, q9, q10⟩
   · exact absurd q8 r1
   obtain ⟨us, T, s1, s2, s3, s4⟩ := hst.hs.res b _ hcs
   have hpos : 0 < es.length := List.length_pos_iff.2 r1
   have hpos2 : 0 < es.length * sz' := Nat.mul_pos hpos r3
   have hne : b1 ≠ b := by rintro rfl; rw [s2] at q9; omega
   have hfl := flat_length q7 q5 q6
   have hcell := q10 0 (flat vals)[0] (List.getElem?_eq_getElem (by rw [hfl]; exact hpos2))
   obtain ⟨c1, t1, fr1, hheap⟩ : ∃ c1 t1 fr1, w.heap[b1]? = some (.cells c1 t1 fr1) ∧ c1.size ≠ 0 := by
     simp only [World.cell?, Nat.add_zero] at hcell
     split at hcell
     · rename_i c1 t1 fr1 hq
       refine ⟨c1, t1, fr1, hq, fun h0 => ?_⟩
       simp at hcell
       rw [Array.getElem?_eq_none (by omega)] at hcell; cases hcell
     · cases hcell
   have hr := run_callFunc_extern (P := P) hf (by rw [hn]; decide) hb g2 g1 #[.slice (some ⟨b1, off1, none⟩) es.length cap, .slice (some ⟨b, off, none⟩) m cc] w
   rw [run_ovl w fn.params fn.resultTypes t el hp hu sz' (fun w => run_sizeOf hsz) ⟨b1, off1, none⟩ ⟨b, off, none⟩ es.length cap m cc hne t1 T c1.size us.size (by simp [World.shape?, hheap.1]) (by simp [World.shape?, s1]) hheap.2
     (by simp [World.frozen?, s1]) (by simp [World.frozen?, s1])] at hr
   have hrun : (execOp a.eval o).run P w = .ok (.value (.bool false)) w := by
     simp only [Result.andThen] at hr
     have hfn : a.eval (.func n) = .func (.func n) #[] #[] := rfl
     simp [execOp, ho, resolve, hc, ha, hfn, Deferred.ofValue, invoke, q1, e2, hr]
   exact ⟨_, w, _, _, _, hrun, Ext.refl _ _ _, hst.hs, by simp [rep], r4⟩
 all_goals exact hR.elim
theorem h_bsl (hst : St D ν w0 K0 H0 N e H a w K μ) {T len ps sz qs el z} (ho : o.op = .buildSlice T len ps) (hT : Sm.elemOf P T = some el) (hsz : szOf P el = some sz) (h0 : 0 < sz) (hlen : len * sz ≤ 2 ^ 24) (hlq : len = qs.length)
   (hz : (P.info? el).bind (·.zero) = some z) (hzs : z.cells.size = sz) (hps : okSeq ν 0 ps.toList qs = true)
   {hs'} (hh : e.hvs qs = some hs') {R : HV → Heap → Prop} (hR : hopK (.bsl sz) hs' H R) : HRun P ν K H a w o R := by
 have hu := elemOf_under hT
 obtain ⟨i, hi, hzi⟩ := Option.bind_eq_some_iff.1 hz
 have hR' : hs'.all HV.el = true ∧ (∀ h ∈ hs', h.ncells = sz) ∧ ∀ b, H b = none → R (.v (.slice (some ⟨b, 0, none⟩) hs'.length hs'.length)) (H.upd b (some (.obj (hs'.flatMap HV.cells)))) := hR
 obtain ⟨h1, h2, h3⟩ := hR'
 have hl' : hs'.length = qs.length := by
   have : ∀ (qs : List Opd) (hs' : List HV), e.hvs qs = some hs' → hs'.length = qs.length := by
     intro qs
     induction qs with
     | nil => intro hs' h; simp [Env.hvs] at h; subst h; rfl
     | cons q qs ih =>
       intro hs' h
       simp only [Env.hvs] at h
       split at h
       · rename_i g gs _ hg
         simp only [Option.some.injEq] at h; subst h
         simp [ih gs hg]
       · cases h
   exact this qs hs' hh
 obtain ⟨us', vals, g1, g2, g3⟩ := fill_seq (sz := sz) hst ps.toList qs 0 ((Array.range (len * sz)).map fun j => z.cells[j % z.cells.size]!) hs' hps hh h1 h2 (by simp; rw [hl', ← hlq]; exact Nat.le_refl _)
 have hfl := flat_length g2 h1 h2
 have hus : us'.toList = flat vals := by
   rw [g3, Nat.zero_mul, setL_eq _ _ _ (by simp [hfl, hl', ← hlq])]
   rw [List.take_zero, List.nil_append, List.drop_eq_nil_of_le (by simp [hfl, hl', ← hlq]), List.append_nil]
 have hrun : (execOp a.eval o).run P w = .ok (.value (.slice (some ⟨w.heap.size, 0, none⟩) len len)) (w.alloc (.cells us' el)) := by
   by_cases hl0 : len * sz = 0
   · have e0 : (Array.range (len * sz)).map (fun j => z.cells[j % z.cells.size]!) = #[] := by rw [hl0]; simp
     rw [e0] at g1
     simp only [execOp, ho, Instr.buildSlice, Sem.run_bind, run_underlying hu, Result.andThen_ok, run_sizeOf hsz, if_neg (show ¬ len * sz > 2 ^ 24 by omega), if_pos hl0, Sem.run_pure, Array.toList_map]
     simp only [hl0, Array.range_zero', List.map_toArray, List.map_nil, g1, newRow, Sem.run_bind, run_newObj_alloc, Result.andThen_ok, Sem.run_pure]
   · simp only [execOp, ho, Instr.buildSlice, Sem.run_bind, run_underlying hu, Result.andThen_ok, run_sizeOf hsz, if_neg (show ¬ len * sz > 2 ^ 24 by omega), if_neg hl0, zeroValue, typeInfo, run_program, hi, hzi, Sem.run_pure, Array.toList_map, g1, newRow, run_newObj_alloc]
 obtain ⟨c1, c2⟩ := rep_flat g2 h1
 obtain ⟨x1, x2⟩ := push_obj hst.hs us' el (hs'.flatMap HV.cells) (by rw [hus]; exact c1) c2
 refine ⟨_, _, _, _, _, hrun, x1, x2, ?_, h3 w.heap.size (hst.hs.none_new (Nat.le_refl _))⟩
 simp [rep, hl', ← hlq]
theorem h_appz (hst : St D ν w0 K0 H0 N e H a w K μ) {c : Call} {x y t tn sz x' y' el bytes zero kn} (ho : o.op = .call c) (hc : c.callee = .builtin .append) (hargs : c.args.toList = [x, y]) (hts : c.argTypes.toList = [t, tn])
   (hT : Sm.elemOf P t = some el) (hel : okEl P el sz bytes zero = true) (htn : P.underlying tn = some (.int kn)) (hx : okOpd ν x x' = true) (hy : okOpd ν y y' = true)
   {hs} (hh : e.hvs [x', y'] = some hs) {R : HV → Heap → Prop} (hR : hopK (.appz sz bytes zero) hs H R) : HRun P ν K H a w o R := by
 obtain ⟨z1, z2, h1, h2, rfl⟩ := hvs_two hh
 have e1 := hv_sound hst hx h1
 have e2 := hv_sound hst hy h2
 have hu := elemOf_under hT
 have ha := arr2 hargs
 have ht := arr2 hts
 obtain ⟨i, z, i1, i2, i3, i4, i5, i6, i7, i8⟩ := okEl_info hel
 obtain ⟨q1, q2⟩ := zeq_rep (ν := ν) (K := K) (w := w) i7
 have grow : ∀ (A : Option Addr) (n cc : Nat) (k : Int) (olds : List Value) (co : List HV), a.eval x = .slice A n cc → a.eval y = .int .i64 k → (Builtin.firstCells sz n (.slice A n cc)).run P w.drew = .ok olds.toArray w.drew → repL ν K w co olds → co.all HV.one = true →
     0 < k → cc < n + k.toNat → n ≤ cc → zero.length = sz → newrow H sz bytes (n + k.toNat) (co ++ (List.replicate k.toNat zero).flatten) R → HRun P ν K H a w o R := by
   intro A n cc k olds co e1 e2 hold hco hc1 r1 r2 r3 r5 ⟨s1, s2⟩
   have hbl : (n + k.toNat) ≤ 140737488355328 := Nat.le_trans (Nat.le_mul_of_pos_right _ i5) s1
   have hkn : ((k.toNat : Nat) : Int) = k := Int.toNat_of_nonneg (by omega)
   have hw : IntKind.i64.wrap k = k := by rw [IntKind.wrap_i64]; omega
   have hneg : ¬ (k < 0) := by omega
   have hns : ¬ (k.toNat * sz = 0) := Nat.mul_ne_zero (by omega) (by omega)
   have hn' : ¬ (n + k.toNat ≤ cc) := by omega
   have h63' : ¬ (9223372036854775807 < ((n : Int) + (k.toNat : Int))) := by omega
   have hfit : Builtin.nextslicecap (n + k.toNat) cc * i.bytes ≤ 281474976710656 := by rw [i3]; exact growslice_fits (by omega) s1
   have h48' : ¬ (281474976710656 < Builtin.nextslicecap (n + k.toNat) cc * i.bytes) := by omega
   have h48i : ¬ (281474976710656 < k * (i.bytes : Int)) := by
     rw [← hkn, ← Int.natCast_mul, i3]
     have : k.toNat * bytes ≤ (n + k.toNat) * bytes := Nat.mul_le_mul_right _ (by omega)
     omega
   have hmx : max k 0 = k := by omega
   have h63'' : ¬ (9223372036854775807 < ((n : Int) + k)) := by omega
   have hrun0 : (Builtin.append_ #[t, tn] o.type #[.slice A n cc, .int .i64 k]).run P w =
       .ok (.slice (some ⟨w.heap.size, 0, none⟩) (n + k.toNat) (grownCap w (n + k.toNat) cc el)) (w.drew.alloc (.cells (olds ++ (Builtin.zeroCells z.cells k.toNat).toList ++ (Builtin.zeroCells z.cells (grownCap w (n + k.toNat) cc el - (n + k.toNat))).toList).toArray el)) := by
     simp [Builtin.append_, run_underlying hu, run_underlying htn, Go.sizeOf, typeInfo, zeroValue, i1, i2, i6, asInt, asIntOf, hw, hneg, hns, hn', h63', h63'', h48', h48i, hkn, hmx, Question.forced, hold, newRow, grownCap]
     congr 2
     apply Array.toList_inj.1
     simp [List.append_assoc]
   have hrun : (execOp a.eval o).run P w = .ok (.value (.slice (some ⟨w.heap.size, 0, none⟩) (n + k.toNat) (grownCap w (n + k.toNat) cc el))) (w.drew.alloc (.cells (olds ++ (Builtin.zeroCells z.cells k.toNat).toList ++ (Builtin.zeroCells z.cells (grownCap w (n + k.toNat) cc el - (n + k.toNat))).toList).toArray el)) := by
     simp only [execOp, ho, resolve, hc, ha, ht, invoke, builtin, List.map_toArray, List.map_cons, List.map_nil, e1, e2, hrun0, Sem.run_bind, Sem.run_pure, Result.andThen_ok]
   have hge := grownCap_ge w (n + k.toNat) cc el
   have hmx := grownCap_le_maxLen w (n + k.toNat) cc el (by simp only [maxLen]; omega)
   have hone : ∀ m, ∀ v ∈ (Builtin.zeroCells z.cells m).toList, v.oneCell' = true := fun m => zero_one (by
     rw [Array.all_eq_true]
     intro j hj
     have := repL_one q1 q2 z.cells[j] (by simp)
     exact this) (by omega) m
   have hzc : (Builtin.zeroCells z.cells k.toNat).toList = (List.replicate k.toNat z.cells.toList).flatten := by
     rw [← made_flat z.cells sz i8 k.toNat]
     simp [Builtin.zeroCells, i8]
   have hgd : Grow w K w.drew K := ⟨fun _ => Nat.le_refl _, fun _ _ _ => rfl⟩
   have hd : hsat ν w.drew K H := hst.hs.draw
   have hzr : ∀ (l : List Value), repL ν K w.drew (l.map .v) l := by
     intro l
     induction l with
     | nil => rfl
     | cons v l ih => exact ⟨v, l, rfl, rfl, ih⟩
   have hzo : (((Builtin.zeroCells z.cells (grownCap w (n + k.toNat) cc el - (n + k.toNat))).toList).map HV.v).all HV.one = true := by
     rw [List.all_map, List.all_eq_true]
     intro v hv; simpa [HV.one] using hone _ v hv
   obtain ⟨x1, x2⟩ := push_obj (w := w.drew) hd (olds ++ (Builtin.zeroCells z.cells k.toNat).toList ++ (Builtin.zeroCells z.cells (grownCap w (n + k.toNat) cc el - (n + k.toNat))).toList).toArray el
     ((co ++ (List.replicate k.toNat zero).flatten) ++ ((Builtin.zeroCells z.cells (grownCap w (n + k.toNat) cc el - (n + k.toNat))).toList).map .v)
     (by
       simp only [List.toList_toArray] at *
       exact repL_append (repL_append (hco.grow hgd) (by rw [hzc]; exact (repL_flatten q1 _).grow hgd)) (hzr _))
     (by rw [List.all_append, List.all_append, hc1, all_flatten q2, hzo]; rfl)
   refine ⟨_, _, _, _, _, hrun, (Ext.draw w K H _ (Nat.le_succ _)).trans x1, x2, by simp [rep], s2 w.heap.size (grownCap w (n + k.toNat) cc el) _ (hst.hs.none_new (Nat.le_refl _)) hge hmx (by rw [List.length_map, Array.length_toList, size_zeroCells, i8]) hzo⟩
 unfold hopK at hR
 split at hR
 all_goals first | (rename_i h _; cases h; done) | (rename_i h; cases h; done) | skip
 · rename_i sz0 bytes0 zero0 k hf hl
   injection hf with f1 f2 f3
   subst f1 f2 f3
   simp only [List.cons.injEq, and_true] at hl
   obtain ⟨rfl, rfl⟩ := hl
   simp only [rep] at e1 e2
   obtain ⟨r1, r2, r3⟩ := hR
   refine grow none 0 0 k [] [] e1 e2 (by simpa using run_firstCells_none (P := P) w.drew sz 0 0 0) rfl rfl r1 (by omega) (Nat.le_refl _) r2 ?_
   simpa using r3
 · rename_i sz0 bytes0 zero0 b off n cc k hf hl
   injection hf with f1 f2 f3
   subst f1 f2 f3
   simp only [List.cons.injEq, and_true] at hl
   obtain ⟨rfl, rfl⟩ := hl
   simp only [rep] at e1 e2
   split at hR
   · rename_i cs hb
     obtain ⟨r1, r2, r3, r4, r5, s12⟩ := hR
     obtain ⟨us, T, t1, t2, t3, t4⟩ := hst.hs.res b _ hb
     have hul := repL_length t3
     have hcl : (((us.toList.take cs.length).drop off).take (n * sz)).length = n * sz := by rw [List.length_take, List.length_drop, hul]; omega
     have hca : cellsAt w b off (((us.toList.take cs.length).drop off).take (n * sz)) := by simpa using cellsAt_take (cellsAt_drop (cellsAt_take (cellsAt_block t1) cs.length) off) (n * sz)
     exact grow _ n cc k _ _ e1 e2 ((Srs.ofAt (P := P) (w := w) (c := cc) hcl hca).cellsD) (repL_take _ (repL_drop off t3)) (all_sub t4 off (n * sz)) r1 r2 r3 r5 s12
   · exact hR.elim
 all_goals exact hR.elim
theorem h_mark (hst : St D ν w0 K0 H0 N e H a w K μ) {src dst x x'} (ho : o.op = .convert src dst x) (hsd : src = dst) (hb : isBytes P src = true) (hx : okOpd ν x x' = true)
   {hs} (hh : e.hvs [x'] = some hs) {R : HV → Heap → Prop} (hR : hopK .mark hs H R) : HRun P ν K H a w o R := by
 subst hsd
 obtain ⟨z1, h1, rfl⟩ := hvs_one hh
 have e1 := hv_sound hst hx h1
 obtain ⟨el, u1, u2⟩ := isBytes_under hb
 unfold hopK at hR
 split at hR
 all_goals first | (rename_i h _; cases h; done) | (rename_i h; cases h; done) | skip
 · rename_i b n cc hf hl
   simp only [List.cons.injEq, and_true] at hl; subst hl
   simp only [rep] at e1
   obtain ⟨cs, hb, hlen, hnc, hcm, hR⟩ := hR
   obtain ⟨us, T, s1, s2, s3, s4⟩ := hst.hs.res b _ hb
   have hlt := hst.hs.lt hb
   have hul := repL_length s3
   have hus : n ≤ us.size := by rw [List.length_take, hlen] at hul; have e9 := Array.length_toList (xs := us); omega
   have hfz : ∀ c, (w.freeze ⟨b, us.size, none⟩ 1).heap[c]? = if c = b then some (.cells us T (us.size, us.size + 1)) else w.heap[c]? := by
     intro c
     unfold World.freeze
     rw [if_neg (by decide)]
     simp only [Array.getElem?_modify]
     by_cases hc : b = c
     · subst hc; simp [s1]
     · have hc' : ¬ c = b := fun h => hc h.symm
       simp [hc, hc']
   have hsize : (w.freeze ⟨b, us.size, none⟩ 1).heap.size = w.heap.size := by
     unfold World.freeze
     rw [if_neg (by decide)]; simp
   have hcell : ∀ c j, (w.freeze ⟨b, us.size, none⟩ 1).cell? ⟨c, j, none⟩ = w.cell? ⟨c, j, none⟩ := by
     intro c j
     simp only [World.cell?, hfz c]
     by_cases hc : c = b
     · subst hc; rw [if_pos rfl, s1]
     · rw [if_neg hc]
   have hrun : (execOp a.eval o).run P w = .ok (.value (.slice (some ⟨b, 0, none⟩) n cc)) (w.freeze ⟨b, us.size, none⟩ 1) := by
     have hsh : w.shape? b = some (T, us.size) := by simp [World.shape?, s1]
     have hfre : (freeze ⟨b, us.size, none⟩ 1).run P w = .ok () (w.freeze ⟨b, us.size, none⟩ 1) := by simp [freeze, Sem.run]
     simp [execOp, ho, e1, convert, run_underlying u1, run_underlying u2, markStringish, shape, Sem.run, hsh]
   have hg : Grow w K (w.freeze ⟨b, us.size, none⟩ 1) (fun i => if i = b then us.size else K i) := by
     refine ⟨fun i => ?_, fun c j _ => hcell c j⟩
     by_cases hi : i = b
     · subst hi; rw [s2]; exact Nat.zero_le _
     · simp [hi]
   have hnone : ∀ i, H i = none → i ≠ b := fun i hi => by rintro rfl; rw [hi] at hb; cases hb
   have hos : (w.freeze ⟨b, us.size, none⟩ 1).os = w.os ∧ (w.freeze ⟨b, us.size, none⟩ 1).tape = w.tape ∧ (w.freeze ⟨b, us.size, none⟩ 1).output = w.output := by
     unfold World.freeze
     rw [if_neg (by decide)]; exact ⟨rfl, rfl, rfl⟩
   have hflat : flat (us.toList.take cs.length) = us.toList.take cs.length := by
     have h1 := repL_one s3 s4
     generalize us.toList.take cs.length = l at h1
     induction l with
     | nil => rfl
     | cons v l ih =>
       have hv := h1 v (by simp)
       have hc : v.cells.toList = [v] := by cases v <;> simp_all [Value.cells, Value.oneCell']
       simp only [flat, List.flatMap_cons, hc, List.singleton_append] at ih ⊢
       rw [ih fun u hu => h1 u (by simp [hu])]
   refine ⟨_, _, .sl .no 1 cs, H.upd b none, fun i => if i = b then us.size else K i, hrun, ⟨hos.1, hos.2.1, hos.2.2, by rw [hsize]; exact Nat.le_refl _, (fun _ => by unfold World.freeze; rw [if_neg (by decide)]; exact Nat.le_refl _), hg, fun i hi hn => ?_⟩, ⟨fun i r hi => ?_, fun i hi => ?_, hst.hs.tab.grow hg⟩, ?_, hR⟩
   · have hne := hnone i hn
     exact ⟨by rw [hfz, if_neg hne], by simp [hne], by simp [Heap.upd, hne, hn]⟩
   · have hne : i ≠ b := by rintro rfl; simp [Heap.upd] at hi
     simp only [Heap.upd, if_neg hne] at hi
     exact (hst.hs.res i r hi).move hg (by rw [hfz, if_neg hne]) (by simp [hne])
   · rw [hsize] at hi
     have hne : i ≠ b := by omega
     simp only [if_neg hne]; exact hst.hs.fresh i hi
   · simp only [rep]
     refine ⟨some ⟨b, 0, none⟩, cc, us.toList.take cs.length, by rw [hlen], by omega, hcm, trivial, ?_, ?_, s3.grow hg, .inr ⟨b, 0, rfl, ?_, ?_⟩⟩
     · rw [List.all_eq_true] at s4 ⊢
       exact fun q hq => oneof (s4 q hq)
     · intro q hq
       have := List.all_eq_true.mp s4 q hq
       cases q <;> simp_all [HV.one, HV.ncells]
     · simp; omega
     · rw [hflat]
       exact cellsAt_take (cellsAt_block (fr := (us.size, us.size + 1)) (T := T) (by rw [hfz, if_pos rfl])) _
 all_goals exact hR.elim
theorem st_hopN (hst : St D ν w0 K0 H0 N e H a w K μ) {f : HOp} {xs : List Opd} (hm : ∀ mf, f ≠ .m mf) (hk : chkHop P ν o.op f xs = true) {zs : List HV} (hz : e.hvs xs = some zs) {R : HV → Heap → Prop} (hs : hopK f zs H R) : HRun P ν K H a w o R := by
 unfold chkHop at hk
 split at hk
 · rename_i ho
   simp only [Bool.and_eq_true] at hk
   obtain ⟨⟨k1, k2⟩, k3⟩ := hk
   split at k1
   · rename_i el hel
     exact h_mks hst ho hel k1 k2 k3 hz hs
   · cases k1
 · rename_i ho
   split at hk
   · rename_i hc ha
     simp only [Bool.and_eq_true] at hk
     obtain ⟨⟨k1, k2⟩, k3⟩ := hk
     split at k1
     · rename_i fn hf
       simp only [Bool.and_eq_true, decide_eq_true_eq] at k1
       obtain ⟨⟨⟨m1, m2⟩, m3⟩, m4⟩ := k1
       split at m4
       · rename_i t hp
         split at m4
         · rename_i el hel
           exact h_ovl hst ho hc ha hf m2 m1 m3 hp hel (by simpa using m4) k2 k3 hz hs
         · cases m4
       · cases m4
     · cases k1
   · cases hk
 · rename_i ho
   split at hk
   · rename_i hc ha ht
     simp only [Bool.and_eq_true] at hk
     obtain ⟨⟨⟨k1, k2⟩, k3⟩, k4⟩ := hk
     split at k1
     · rename_i el hel
       split at k2
       · rename_i kn hkn
         exact h_appz hst ho hc ha ht hel k1 hkn k3 k4 hz hs
       · cases k2
     · cases k1
   · cases hk
 · rename_i ho
   split at hk
   · rename_i el hel
     simp only [Bool.and_eq_true, decide_eq_true_eq] at hk
     obtain ⟨⟨⟨⟨⟨k1, k2⟩, k3⟩, k4⟩, k5⟩, k6⟩ := hk
     split at k5
     · rename_i z hz0
       simp only [decide_eq_true_eq] at k5
       exact h_bsl hst ho hel k1 k2 k3 k4 hz0 k5 k6 hz hs
     · cases k5
   · cases hk
 · rename_i ho
   simp only [Bool.and_eq_true, decide_eq_true_eq] at hk
   exact h_mark hst ho hk.1.1 hk.1.2 hk.2 hz hs
 · rename_i ho
   split at hk
   · rename_i hc ha ht
     simp only [Bool.and_eq_true] at hk
     obtain ⟨⟨k1, k2⟩, k3⟩ := hk
     split at k1
     · rename_i el hel
       exact h_copy hst ho hc ha ht hel (by simpa using k1) k2 k3 hz hs
     · cases k1
   · cases hk
 · rename_i ho
   split at hk
   · rename_i hc ha ht
     simp only [Bool.and_eq_true] at hk
     obtain ⟨k1, k2⟩ := hk
     split at k1
     · rename_i el hel
       split at k1
       · exact h_clear hst ho hc ha ht hel k1 k2 hz hs
       · cases k1
     · cases k1
   · cases hk
 · exact absurd rfl (hm _)
 · cases hk
theorem st_hop (hst : St D ν w0 K0 H0 N e H a w K μ) {f : HOp} {xs : List Opd} (hk : chkHop P ν o.op f xs = true) {Kc : EV → Env → Heap → Prop} (hs : (SOp.hop f xs).step (Spec P ν) e H Kc)
   {next : Act → World → Prop} {Q} (hK : Next' D ν w0 K0 H0 N a o.dst Kc next) : o.upon P a next Q ((execOp a.eval o).run P w) := by
 simp only [SOp.step] at hs
 split at hs
 · rename_i zs hz
   have key : HRun P ν K H a w o (fun h H' => Kc (.h h) e H') ∨ HRunS P ν K H a w o (fun h H' => Kc (.h h) e H') := by
     rcases hf : f with mf | _ <;> subst hf
     · exact h_mop hst hk hz hs
     all_goals left
     all_goals exact st_hopN hst (by intro; simp) hk hz hs
   rcases key with ⟨u, w', h, H', K', h1, h2, h3, h4, h5⟩ | ⟨w', H', K', h1, h2, h3, h5⟩
   · rw [h1]
     apply upon_value
     exact hK _ _ _ h5 _ _ _ _ (hst.step h2 h3) h4 trivial
   · rw [h1]
     show next (a.put o.dst Go.undef) w'
     exact hK _ _ _ h5 _ _ _ _ (hst.step h2 h3) (by simp [repE, rep]) trivial
 · exact hs.elim
end
end Sm
namespace Sm
open Go
def Bodies (P : Program) (ν : Nat → Option Nat) : Prop := ∀ n g, fnat ν n g → ∃ f, P.funcs[n]? = some f ∧ f.body.isNone = false ∧ (f.name == "runtime.NumGoroutine") = false
section
variable {P : Program} {D : List (Nat × List HV)} {ν : Nat → Option Nat} {w0 : World} {K0 : Nat → Nat} {H0 : Heap} {N : Nat} {e : Env} {H : Heap} {a : Act} {w : World} {K μ : Nat → Nat} {o : Oper}
theorem st_calm (hst : St D ν w0 K0 H0 N e H a w K μ) {x : EV} (h : Calm P ν K μ e a w o x) {Kc : EV → Env → Heap → Prop} (hk : Kc x e H) {next : Act → World → Prop} {Q} (hK : Next' D ν w0 K0 H0 N a o.dst Kc next) :
   o.upon P a next Q ((execOp a.eval o).run P w) := by
 obtain ⟨u, h1, h2, h3⟩ := h
 rw [h1]
 apply upon_value
 exact hK _ _ _ hk _ _ _ _ hst h2 h3
theorem calm_of {s : SOp} {Kc : EV → Env → Heap → Prop} {x : Option EV} (hx : s.ev e H = x) (hs : match s.ev e H with | some x => Kc x e H | none => False) : ∃ z, s.ev e H = some z ∧ Kc z e H := by
 split at hs
 · rename_i z hz; exact ⟨z, hz, hs⟩
 · exact hs.elim
theorem ev_lkc (hst : St D ν w0 K0 H0 N e H a w K μ) {T x k ok x' k' s agg zero kt el} (ho : o.op = .lookup T x k ok) (hT : mapOf P T = some (kt, el)) (hkt : okKey P s kt = true) (hz0 : okZero P el agg zero = true) (hx : okOpd ν x x' = true) (hk : okOpd ν k k' = true)
   {z} (hz : (SOp.lkc s ok agg zero x' k').ev e H = some z) : Calm P ν K μ e a w o z := by
 simp only [SOp.ev] at hz
 split at hz
 · rename_i b kv h1 h2
   have e1 := hv_sound hst hx h1
   have e2 := hv_sound hst hk h2
   simp only [rep] at e1 e2
   have hu := mapOf_under hT
   obtain ⟨d, hd, hkd⟩ := okKey_d hkt
   obtain ⟨zv, hzr, hzz⟩ := okZero_run (ν := ν) (K := K) (w := w) hz0
   have fin : ∀ (u : Value) (h : HV) (b : Bool), rep ν K w h u → rep ν K w (okd ok h b) (if ok then .tuple #[u, .bool b] else u) := by
     intro u h b hr
     cases ok
     · exact hr
     · simp only [okd, if_true, rep, repL]
       exact ⟨[u, .bool b], rfl, u, [.bool b], rfl, hr, _, [], rfl, rfl, rfl⟩
   split at hz
   · rename_i hik
     have hck : (Instr.checkKey ((w.heap[b]?).elim false fun _ => false) 10000 kt kv).run P w = .ok () w := run_checkKey hd hkd hik _ 9999
     have hck' : ∀ em, (Instr.checkKey em 10000 kt kv).run P w = .ok () w := fun em => run_checkKey hd hkd hik em 9999
     split at hz
     · rename_i es c hH
       obtain ⟨us, m1, m2, m3, m4⟩ := mp_of (P := P) hst hH
       obtain ⟨n1, n2⟩ := mfind_now hkd kv m3 0
       split at hz
       · rename_i p hp
         obtain ⟨j, y, u, g1, g2, g3, g4, g5, g6, g7⟩ := n2 p hp
         have hf := run_findKey (w := w) hd g7
         simp only [Option.some.injEq] at hz
         subst hz
         rw [g3]
         refine ⟨_, ?_, fin u _ true g6, trivial⟩
         simp [execOp, ho, e1, e2, Instr.lookup, run_underlying hu, hck' _, m4, hf]
       · rename_i hp
         have hf := run_findKey (w := w) hd (n1 hp)
         simp only [Option.some.injEq] at hz
         subst hz
         refine ⟨_, ?_, fin zv _ false hzz, trivial⟩
         simp [execOp, ho, e1, e2, Instr.lookup, run_underlying hu, hck' _, m4, hf, hzr]
       · cases hz
     · cases hz
   · cases hz
 · cases hz
theorem step_sound (hB : Bodies P ν) (hst : St D ν w0 K0 H0 N e H a w K μ) {s : SOp} (hk : chkOp P ν o s = true) {Kc : EV → Env → Heap → Prop} (hs : s.step (Spec P ν) e H Kc)
   {next : Act → World → Prop} {Q} (hK : Next' D ν w0 K0 H0 N a o.dst Kc next) : o.upon P a next Q ((execOp a.eval o).run P w) := by
 unfold chkOp at hk
 split at hk
 · rename_i x y ho
   obtain ⟨z, h1, h2⟩ := calm_of rfl hs
   exact st_calm hst (ev_mv hst (.inl ho) hk h1) h2 hK
 · rename_i x y ho
   obtain ⟨z, h1, h2⟩ := calm_of rfl hs
   exact st_calm hst (ev_mv hst (.inr ho) hk h1) h2 hK
 · rename_i ho
   obtain ⟨z, h1, h2⟩ := calm_of rfl hs
   simp only [Bool.and_eq_true] at hk
   exact st_calm hst (ev_pick hst ho hk.1.1 hk.1.2 hk.2 h1) h2 hK
 · rename_i ho
   obtain ⟨z, h1, h2⟩ := calm_of rfl hs
   simp only [Bool.and_eq_true, decide_eq_true_eq] at hk
   obtain ⟨⟨rfl, k1⟩, k2⟩ := hk
   exact st_calm hst (ev_int hst ho k1 k2 h1) h2 hK
 · rename_i ho
   obtain ⟨z, h1, h2⟩ := calm_of rfl hs
   simp only [Bool.and_eq_true, decide_eq_true_eq] at hk
   obtain ⟨⟨rfl, k1⟩, k2⟩ := hk
   exact st_calm hst (ev_str hst ho k1 k2 h1) h2 hK
 · rename_i ho
   obtain ⟨z, h1, h2⟩ := calm_of rfl hs
   simp only [Bool.and_eq_true] at hk
   exact st_calm hst (ev_eq (ne := false) hst (by simpa using ho) hk.1.1 hk.1.2 hk.2 h1) h2 hK
 · rename_i ho
   obtain ⟨z, h1, h2⟩ := calm_of rfl hs
   simp only [Bool.and_eq_true] at hk
   exact st_calm hst (ev_eq (ne := true) hst (by simpa using ho) hk.1.1 hk.1.2 hk.2 h1) h2 hK
 · rename_i ho
   obtain ⟨z, h1, h2⟩ := calm_of rfl hs
   exact st_calm hst (ev_not hst ho hk h1) h2 hK
 · rename_i ho
   obtain ⟨z, h1, h2⟩ := calm_of rfl hs
   exact st_calm hst (ev_neg hst ho hk h1) h2 hK
 · rename_i ho
   obtain ⟨z, h1, h2⟩ := calm_of rfl hs
   simp only [Bool.and_eq_true, decide_eq_true_eq] at hk
   exact st_calm hst (ev_conv hst ho hk.1.1 hk.1.2 hk.2 h1) h2 hK
 · rename_i ho
   obtain ⟨z, h1, h2⟩ := calm_of rfl hs
   simp only [Bool.and_eq_true] at hk
   exact st_calm hst (ev_idc hst ho hk.1.1 hk.1.2 hk.2 h1) h2 hK
 · rename_i ho
   obtain ⟨z, h1, h2⟩ := calm_of rfl hs
   simp only [Bool.and_eq_true] at hk
   exact st_calm hst (ev_b2c hst ho hk.1.1 hk.1.2 hk.2 h1) h2 hK
 · rename_i ho
   split at hk
   · rename_i z hz
     exact st_alloc hst ho hz hk hs hK
   · cases hk
 · rename_i ho
   exact st_box hst ho hk hs hK
 · rename_i ho
   obtain ⟨z, h1, h2⟩ := calm_of rfl hs
   simp only [Bool.and_eq_true] at hk
   obtain ⟨⟨k1, k2⟩, k3⟩ := hk
   split at k1
   · rename_i zv hzv
     split at k2
     · rename_i fs hfs
       exact st_calm hst (ev_build hst ho hzv k1 hfs k2 k3 h1) h2 hK
     · rename_i m el hfs
       simp only [Bool.and_eq_true, List.isEmpty_iff] at k2
       exact st_calm hst (ev_build0 hst ho k2.1 k3 hzv k1 hfs k2.2 h1) h2 hK
     · cases k2
   · cases k1
 · rename_i ho
   split at hk
   · rename_i el hel
     simp only [Bool.and_eq_true, decide_eq_true_eq] at hk
     obtain ⟨⟨⟨⟨⟨k1, k2⟩, k3⟩, k4⟩, k5⟩, k6⟩ := hk
     split at k5
     · rename_i z hz
       simp only [decide_eq_true_eq] at k5
       exact st_bslice hst ho hel k1 k2 k3 k4 hz k5 k6 hs hK
     · cases k5
   · cases hk
 · rename_i ho
   obtain ⟨z, h1, h2⟩ := calm_of rfl hs
   simp only [Bool.and_eq_true, decide_eq_true_eq] at hk
   exact st_calm hst (ev_load hst ho hk.1.1.1 hk.1.1.2 hk.1.2 hk.2 h1) h2 hK
 · rename_i ho
   simp only [Bool.and_eq_true, decide_eq_true_eq] at hk
   exact st_store hst ho hk.1.1 hk.1.2 hk.2 hs hK
 · rename_i ho
   obtain ⟨z, h1, h2⟩ := calm_of rfl hs
   exact st_calm hst (ev_nilc hst ho hk h1) h2 hK
 · rename_i ho
   obtain ⟨z, h1, h2⟩ := calm_of rfl hs
   simp only [Bool.and_eq_true] at hk
   obtain ⟨k1, k2⟩ := hk
   split at k1
   · rename_i fd hfd
     simp only [Bool.and_eq_true, decide_eq_true_eq] at k1
     obtain ⟨k3, k4⟩ := k1
     split at k4
     · rename_i n hn
       exact st_calm hst (ev_fld hst ho hfd k3 hn k2 h1) h2 hK
     · cases k4
   · cases k1
 · rename_i ho
   obtain ⟨z, h1, h2⟩ := calm_of rfl hs
   simp only [Bool.and_eq_true] at hk
   obtain ⟨k1, k2⟩ := hk
   split at k1
   · rename_i fd hfd
     simp only [Bool.and_eq_true, decide_eq_true_eq] at k1
     obtain ⟨⟨⟨k3, k4⟩, k5⟩, k6⟩ := k1
     exact st_calm hst (ev_field hst ho hfd k3 k4 k5 (by simpa using k6) k2 h1) h2 hK
   · cases k1
 · rename_i ho
   obtain ⟨z, h1, h2⟩ := calm_of rfl hs
   simp only [Bool.and_eq_true] at hk
   obtain ⟨⟨k1, k2⟩, k3⟩ := hk
   split at k1
   · rename_i el hel
     exact st_calm hst (ev_idx hst ho hel (by simpa using k1) k2 k3 h1) h2 hK
   · cases k1
 · rename_i ho
   obtain ⟨z, h1, h2⟩ := calm_of rfl hs
   simp only [Bool.and_eq_true] at hk
   obtain ⟨⟨k1, k2⟩, k3⟩ := hk
   split at k1
   · rename_i n el hel
     simp only [Bool.and_eq_true, decide_eq_true_eq] at k1
     obtain ⟨rfl, k4⟩ := k1
     exact st_calm hst (ev_aidx hst ho hel k4 k2 k3 h1) h2 hK
   · cases k1
 · rename_i ho
   obtain ⟨z, h1, h2⟩ := calm_of rfl hs
   simp only [Bool.and_eq_true] at hk
   exact st_calm hst (ev_sidx hst ho hk.1.1 hk.1.2 hk.2 h1) h2 hK
 · rename_i ho
   obtain ⟨z, h1, h2⟩ := calm_of rfl hs
   split at hk
   · rename_i hc ha ht
     simp only [Bool.and_eq_true] at hk
     exact st_calm hst (ev_len hst ho hc ha ht hk.1 hk.2 h1) h2 hK
   · cases hk
 · rename_i ho
   obtain ⟨z, h1, h2⟩ := calm_of rfl hs
   split at hk
   · rename_i hc ha ht
     simp only [Bool.and_eq_true] at hk
     exact st_calm hst (ev_slen hst ho hc ha ht hk.1 hk.2 h1) h2 hK
   · cases hk
 · rename_i ho
   split at hk
   · rename_i hc ha ht
     simp only [Bool.and_eq_true, decide_eq_true_eq] at hk
     obtain ⟨⟨⟨k1, k2⟩, k3⟩, k4⟩ := hk
     split at k1
     · rename_i el hel
       split at k1
       · rename_i i hi
         simp only [Bool.and_eq_true, decide_eq_true_eq] at k1
         obtain ⟨⟨⟨⟨m1, m2⟩, m3⟩, m4⟩, m5⟩ := k1
         split at m5
         · rename_i z hz
           simp only [Bool.and_eq_true, decide_eq_true_eq] at m5
           exact st_app hst ho hc ha ht k2 hel hi m1 m2 m3 m4 hz m5.1 m5.2 k3 k4 hs hK
         · cases m5
       · cases k1
     · cases k1
   · cases hk
 · rename_i ho
   obtain ⟨z, h1, h2⟩ := calm_of rfl hs
   split at hk
   · rename_i hc ha
     simp only [Bool.and_eq_true] at hk
     obtain ⟨⟨rfl, k1⟩, k2⟩ := hk
     exact st_calm hst (ev_mm hst ho (by simpa using hc) ha k1 k2 h1) h2 hK
   · rename_i hc ha
     simp only [Bool.and_eq_true, Bool.not_eq_true'] at hk
     obtain ⟨⟨rfl, k1⟩, k2⟩ := hk
     exact st_calm hst (ev_mm hst ho (by simpa using hc) ha k1 k2 h1) h2 hK
   · cases hk
 · rename_i c g ys ho
   split at hk
   · rename_i f hc
     simp only [Bool.and_eq_true, decide_eq_true_eq] at hk
     simp only [SOp.step] at hs
     split at hs
     · rename_i zs hz
       refine st_call hst hB (n := f) (us := c.args.map a.eval) ?_ hk.1 (by simpa using hvs_sound hst hk.2 hz) hs hK
       simp [execOp, ho, resolve, hc, Act.eval, Deferred.ofValue, invoke]
     · exact hs.elim
   · cases hk
 · rename_i c y ys ho
   split at hk
   · rename_i x hc
     simp only [Bool.and_eq_true] at hk
     simp only [SOp.step] at hs
     split at hs
     · rename_i g caps zs hz1 hz2
       have e1 := hv_sound hst hk.1 hz1
       simp only [rep] at e1
       obtain ⟨n, us, g1, g2, g3⟩ := e1
       refine st_call hst hB (n := n) (us := c.args.map a.eval ++ us.toArray) ?_ g1 (by simpa using repL_append (hvs_sound hst hk.2 hz2) g3) hs hK
       simp [execOp, ho, resolve, hc, g2, Deferred.ofValue, invoke]
     · rename_i g r zs hz1 hz2
       have e1 := hv_sound hst hk.1 hz1
       simp only [rep] at e1
       obtain ⟨n, u', g1, g2, g3⟩ := e1
       refine st_call hst hB (n := n) (us := #[u'] ++ c.args.map a.eval) ?_ g1 (by simp only [Array.toList_append, Array.toList_map]; exact ⟨u', _, rfl, g3, hvs_sound hst hk.2 hz2⟩) hs hK
       simp [execOp, ho, resolve, hc, g2, Deferred.ofValue, invoke]
     · exact hs.elim
   · cases hk
 · rename_i ho
   obtain ⟨z, h1, h2⟩ := calm_of rfl hs
   simp only [Bool.and_eq_true, decide_eq_true_eq] at hk
   exact st_calm hst (ev_mkfn hst ho hk.1.1 hk.1.2 hk.2 h1) h2 hK
 · rename_i ho
   obtain ⟨z, h1, h2⟩ := calm_of rfl hs
   simp only [Bool.and_eq_true, decide_eq_true_eq] at hk
   obtain ⟨rfl, k1⟩ := hk
   exact st_calm hst (ev_ext hst ho k1 h1) h2 hK
 · rename_i ho
   obtain ⟨z, h1, h2⟩ := calm_of rfl hs
   simp only [Bool.and_eq_true] at hk
   obtain ⟨⟨⟨⟨⟨k1, k2⟩, k3⟩, k4⟩, k5⟩, k6⟩ := hk
   split at k1
   · rename_i el hel
     exact st_calm hst (ev_slc hst ho hel (by simpa using k1) k2 k3 k4 k5 k6 h1) h2 hK
   · cases k1
 · rename_i ho
   obtain ⟨z, h1, h2⟩ := calm_of rfl hs
   simp only [Bool.and_eq_true] at hk
   exact st_calm hst (ev_ssl hst ho hk.1.1.1 hk.1.1.2 hk.1.2 hk.2 h1) h2 hK
 · rename_i ho
   obtain ⟨z, h1, h2⟩ := calm_of rfl hs
   simp only [Bool.and_eq_true, decide_eq_true_eq] at hk
   obtain ⟨⟨⟨rfl, k1⟩, k2⟩, k3⟩ := hk
   split at k1
   · rename_i kt el hT
     simp only [Bool.and_eq_true] at k1
     exact st_calm hst (ev_lkc hst ho hT k1.1 k1.2 k2 k3 h1) h2 hK
   · cases k1
 · rename_i ho
   obtain ⟨z, h1, h2⟩ := calm_of rfl hs
   exact st_calm hst (ev_com hst ho hk h1) h2 hK
 · rename_i ho
   obtain ⟨z, h1, h2⟩ := calm_of rfl hs
   simp only [Bool.and_eq_true] at hk
   obtain ⟨⟨⟨k1, k2⟩, k3⟩, k4⟩ := hk
   split at k1
   · rename_i m el hT
     simp only [Bool.and_eq_true, decide_eq_true_eq] at k1
     obtain ⟨rfl, k5⟩ := k1
     exact st_calm hst (ev_asl hst ho hT k5 k2 k3 k4 h1) h2 hK
   · cases k1
 · exact st_nd hst hk hs hK
 · exact st_hop hst hk hs hK
 · exact hs.elim
 · cases hk
def chkO (P : Program) (ν : Nat → Option Nat) (N : Nat) (ops : Array Oper) (o : Oper) (s : SOper) : Bool :=
 chkOp P ν o s.op && decide (o.dst = s.dst) && (match o.dst with
   | some d => decide (d < N)
   | none => true) && (match o.guard, s.guard with
   | none, none => true
   | some (j, b), some (t, b') => decide (b = b') && decide ((ops[j]?).bind (·.dst) = some t) && decide (t < N)
   | _, _ => false)
theorem yielded_eq {ops : Array Oper} {tmps : Array Value} {j t : Nat} (h : (ops[j]?).bind (·.dst) = some t) (ht : t < tmps.size) : yielded ops tmps j = match tmps.getD t undef with | .bool b => some b | _ => none := by
 simp only [yielded, h, Option.bind_some, Array.getElem?_eq_getElem ht, Array.getD_eq_getD_getElem?, Option.getD_some]
 cases tmps[t] <;> rfl
theorem rsem_soundT (hB : Bodies P ν) {ops : Array Oper} {Q : Exit → Act → World → Prop} {Kc : Env → Heap → Prop} {tl : List Nat} : ∀ (l : List Nat) (ss : List SOper) {e : Env} {H : Heap} {a : Act} {w : World} {K μ : Nat → Nat},
   l.length = ss.length → (∀ k, k < l.length → ∃ o s, ops[l[k]!]? = some o ∧ ss[k]? = some s ∧ chkO P ν N ops o s = true) →
   St D ν w0 K0 H0 N e H a w K μ → rsem (Spec P ν) ss e H Kc → (∀ e' H' a' w' K' μ', Kc e' H' → St D ν w0 K0 H0 N e' H' a' w' K' μ' → wpOps P ops Q tl a' w') → wpOps P ops Q (l ++ tl) a w
 | [], [], e, H, a, w, K, μ, _, _, hst, hs, hQ => hQ _ _ _ _ _ _ hs hst
 | [], _ :: _, _, _, _, _, _, _, hl, _, _, _, _ => by simp at hl
 | _ :: _, [], _, _, _, _, _, _, hl, _, _, _, _ => by simp at hl
 | i :: l, s :: ss, e, H, a, w, K, μ, hl, hc, hst, hs, hQ => by
   obtain ⟨o, s', h1, h2, h3⟩ := hc 0 (by simp)
   simp only [List.getElem!_cons_zero, List.getElem?_cons_zero, Option.some.injEq] at h1 h2
   subst h2
   have hrest : ∀ k, k < l.length → ∃ o s, ops[l[k]!]? = some o ∧ ss[k]? = some s ∧ chkO P ν N ops o s = true := by
     intro k hk
     obtain ⟨o', s'', g1, g2, g3⟩ := hc (k + 1) (by simpa using hk)
     exact ⟨o', s'', by simpa using g1, by simpa using g2, g3⟩
   have hl' : l.length = ss.length := by simpa using hl
   simp only [chkO, Bool.and_eq_true, decide_eq_true_eq] at h3
   obtain ⟨⟨⟨c1, c2⟩, c3⟩, c4⟩ := h3
   have hd : ∀ t, s.dst = some t → t < N := by
     intro t ht
     rw [← c2] at ht
     simp only [ht, decide_eq_true_eq] at c3
     exact c3
   have next_ok : ∀ {e1 : Env} {a1 : Act}, Next' D ν w0 K0 H0 N a1 o.dst (fun x e' H' => rsem (Spec P ν) ss (e'.put s.dst x) H' Kc) (wpOps P ops Q (l ++ tl)) := by
     intro e1 a1 x e' H' hk u w' K' μ' hst' hr hlv
     rw [c2]
     exact rsem_soundT hB l ss hl' hrest (hst'.put hd hr hlv) hk hQ
   simp only [List.cons_append, wpOps, h1]
   simp only [rsem, rsem1] at hs
   cases hgo : o.guard with
   | none =>
     cases hgs : s.guard with
     | some p => simp [hgo, hgs] at c4
     | none =>
       simp only [hgs] at hs
       rw [if_pos (by simp [Region.wanted, hgo])]
       left
       exact step_sound hB hst c1 hs (next_ok (e1 := e))
   | some p =>
     obtain ⟨j, b⟩ := p
     cases hgs : s.guard with
     | none => simp [hgo, hgs] at c4
     | some q =>
       obtain ⟨t, b'⟩ := q
       simp only [hgo, hgs, Bool.and_eq_true, decide_eq_true_eq] at c4
       obtain ⟨⟨rfl, c5⟩, c6⟩ := c4
       have hy := yielded_eq c5 (tmps := a.tmps) (by rw [hst.sz]; exact c6)
       have hwd : Region.wanted o (yielded ops a.tmps) = (yielded ops a.tmps j == some b) := by simp [Region.wanted, hgo]
       simp only [hgs] at hs
       split at hs
       · rename_i bv hget
         have e1 := (hst.slot t _ hget).1
         simp only [repE, rep] at e1
         rw [e1] at hy
         simp only at hy
         have hput : ∀ c, bv = c → St D ν w0 K0 H0 N (e.put (some t) (.h (.v (.bool c)))) H a w K μ := by
           intro c hcv; subst hcv
           rw [put_same hget]; exact hst
         by_cases hbv : bv = b
         · rw [if_pos (by rw [hwd, hy, hbv]; simp)]
           left
           exact step_sound hB (hput b hbv) c1 (hs.1 hbv) (next_ok (e1 := e))
         · have hbn : bv = !b := by cases bv <;> cases b <;> simp_all
           rw [if_neg (by rw [hwd, hy, hbn]; cases b <;> simp)]
           rw [c2]
           exact rsem_soundT hB l ss hl' hrest ((hput (!b) hbn).put (x := .h .undef) (u := undef) hd (by simp [repE, rep, HV.undef]) trivial) (hs.2 hbn) hQ
       · rename_i us hget
         have e1 := (hst.slot t _ hget).1
         simp only [repE, rep] at e1
         rw [e1] at hy
         simp only at hy
         rw [if_neg (by rw [hwd, hy]; simp)]
         rw [c2]
         exact rsem_soundT hB l ss hl' hrest (hst.put (x := .h .undef) (u := undef) hd (by simp [repE, rep, HV.undef]) trivial) hs hQ
       · exact hs.elim
theorem rsem_sound (hB : Bodies P ν) {ops : Array Oper} {Q : Exit → Act → World → Prop} {Kc : Env → Heap → Prop} (l : List Nat) (ss : List SOper) {e : Env} {H : Heap} {a : Act} {w : World} {K μ : Nat → Nat}
   (h1 : l.length = ss.length) (h2 : ∀ k, k < l.length → ∃ o s, ops[l[k]!]? = some o ∧ ss[k]? = some s ∧ chkO P ν N ops o s = true)
   (h3 : St D ν w0 K0 H0 N e H a w K μ) (h4 : rsem (Spec P ν) ss e H Kc) (h5 : ∀ e' H' a' w' K' μ', Kc e' H' → St D ν w0 K0 H0 N e' H' a' w' K' μ' → Q .normal a' w') : wpOps P ops Q l a w := by
 have := rsem_soundT (tl := []) hB l ss h1 h2 h3 h4 h5
 rwa [List.append_nil] at this
end
end Sm
namespace Sm
open Go
def SMono (S : SpecT) : Prop := ∀ g hs H (Q Q' : HV → Heap → Prop), (∀ h H', Q h H' → Q' h H') → S g hs H Q → S g hs H Q'
theorem step_mono {S : SpecT} (hS : SMono S) {e : Env} {H : Heap} {K K' : EV → Env → Heap → Prop} (hK : ∀ x e' H', K x e' H' → K' x e' H') : ∀ (o : SOp), o.step S e H K → o.step S e H K' := by
 intro o h
 cases o
 case alloc loc cs =>
   simp only [SOp.step] at h ⊢
   split at h
   · exact ⟨h.1, hK _ _ _ h.2⟩
   · exact fun b hb => hK _ _ _ (h b hb)
 case box loc n x =>
   simp only [SOp.step] at h ⊢
   split at h
   · obtain ⟨h1, h2, h3⟩ := h
     refine ⟨h1, h2, ?_⟩
     split at h3
     · exact ⟨h3.1, hK _ _ _ h3.2⟩
     · exact fun b hb => hK _ _ _ (h3 b hb)
   · exact h.elim
 case bslice sz ps =>
   simp only [SOp.step] at h ⊢
   split at h
   · exact ⟨h.1, h.2.1, hK _ _ _ h.2.2⟩
   · exact h.elim
 case store n a x =>
   simp only [SOp.step] at h ⊢
   split at h
   · obtain ⟨h1, h2, h3⟩ := h
     refine ⟨h1, h2, ?_⟩
     split at h3
     · split at h3
       · exact ⟨h3.1, hK _ _ _ h3.2⟩
       · exact h3.elim
     · split at h3
       · exact ⟨h3.1, hK _ _ _ h3.2⟩
       · exact h3.elim
     · exact h3.elim
   · exact h.elim
 case hop f xs =>
   simp only [SOp.step] at h ⊢
   split at h
   · exact hopK_mono (fun h' H' hr => hK _ _ _ hr) h
   · exact h.elim
 case app sz bytes x y =>
   simp only [SOp.step] at h ⊢
   rcases h with h | h
   rotate_left
   · right
     split at h
     · exact appK_mono (fun h' H' hr => hK _ _ _ hr) h
     · exact h.elim
   left
   split at h
   · exact ⟨h.1, fun hy => hK _ _ _ (h.2.1 hy), fun hy => ⟨(h.2.2 hy).1, fun b c hb => hK _ _ _ ((h.2.2 hy).2 b c hb)⟩⟩
   · exact ⟨h.1, h.2.1, fun hy => hK _ _ _ (h.2.2.1 hy), fun hy => ⟨(h.2.2.2 hy).1, fun b c hb => hK _ _ _ ((h.2.2.2 hy).2 b c hb)⟩⟩
   · exact ⟨h.1, h.2.1, h.2.2.1, h.2.2.2.1, fun b c hb => hK _ _ _ (h.2.2.2.2 b c hb)⟩
   · exact h.elim
 case call g args =>
   simp only [SOp.step] at h ⊢
   split at h
   · exact hS _ _ _ _ _ (fun h' H' => hK _ _ _) h
   · exact h.elim
 case callv x args =>
   simp only [SOp.step] at h ⊢
   split at h
   · exact hS _ _ _ _ _ (fun h' H' => hK _ _ _) h
   · exact hS _ _ _ _ _ (fun h' H' => hK _ _ _) h
   · exact h.elim
 case nd f xs =>
   simp only [SOp.step] at h ⊢
   split at h
   · exact ndK_mono (fun h' hr => hK _ _ _ hr) h
   · exact h.elim
 all_goals
   simp only [SOp.step] at h ⊢
   split at h
   · exact hK _ _ _ h
   · exact h.elim
theorem rsem1_mono {S : SpecT} (hS : SMono S) {K K' : Env → Heap → Prop} (hK : ∀ e H, K e H → K' e H) (s : SOper) (e : Env) (H : Heap) (h : rsem1 S s e H K) : rsem1 S s e H K' := by
 simp only [rsem1] at h ⊢
 split at h
 · exact step_mono hS (fun x e' H' h' => hK _ _ h') _ h
 · split at h
   · exact ⟨fun hb => step_mono hS (fun x e' H' h' => hK _ _ h') _ (h.1 hb), fun hb => hK _ _ (h.2 hb)⟩
   · exact hK _ _ h
   · exact h.elim
def SOp.opds : SOp → List Opd
 | .mv x => [x] | .pick c a b => [c, a, b] | .int _ x y => [x, y] | .str _ x y => [x, y] | .eq _ _ x y => [x, y] | .not x => [x] | .neg x => [x] | .conv _ x => [x] | .idc x => [x] | .b2c x => [x]
 | .alloc _ _ => [] | .box _ _ x => [x] | .build _ ps => ps.map (·.2.2) | .bslice _ ps => ps | .load _ _ x => [x] | .store _ a x => [a, x] | .nilc x => [x] | .fld _ x => [x]
 | .field _ _ _ x => [x] | .idx _ x i => [x, i] | .aidx _ _ x i => [x, i] | .sidx x i => [x, i] | .len x => [x] | .slen x => [x] | .app _ _ x y => [x, y] | .call _ xs => xs
 | .callv x xs => x :: xs | .mkfn _ xs => xs | .ext x _ => [x] | .slc _ x lo hi mx => x :: (lo.toList ++ hi.toList ++ mx.toList) | .ssl x lo hi => x :: (lo.toList ++ hi.toList) | .mm _ x y => [x, y] | .nd _ xs => xs | .hop _ xs => xs | .com x => [x] | .asl _ _ x lo hi => x :: (lo.toList ++ hi.toList) | .lkc _ _ _ _ x k => [x, k] | .dead => []
def SOp.isLoad : SOp → Bool
 | .load .. => true
 | .lkc .. => true
 | _ => false
section
variable {e e' : Env} {H H' : Heap}
theorem hv_congr {x : Opd} (h : e.opd x = e'.opd x) : e.hv x = e'.hv x := by simp only [Env.hv, h]
theorem hvs_congr : ∀ {xs : List Opd}, (∀ x ∈ xs, e.opd x = e'.opd x) → e.hvs xs = e'.hvs xs
 | [], _ => rfl
 | x :: xs, h => by
   have h1 := hv_congr (h x (by simp))
   have h2 : e.hvs xs = e'.hvs xs := hvs_congr (fun y hy => h y (by simp [hy]))
   simp only [Env.hvs, h1, h2]
theorem bnd_congr {d : Nat} {x : Option Opd} (h : ∀ y ∈ x.toList, e.opd y = e'.opd y) : bnd e d x = bnd e' d x := by
 cases x with
 | none => rfl
 | some x => simp only [bnd, hv_congr (h x (by simp))]
theorem ev_congr (o : SOp) (h : ∀ x ∈ o.opds, e.opd x = e'.opd x) (hl : o.isLoad = true → e.bx = e'.bx ∧ H = H') : o.ev e H = o.ev e' H' := by
 cases o
 case build z ps =>
   simp only [SOp.ev]
   have : (ps.map fun p => (p.1, p.2.1, e.hv p.2.2)) = ps.map fun p => (p.1, p.2.1, e'.hv p.2.2) := by
     apply List.map_congr_left
     intro p hp
     rw [hv_congr (h p.2.2 (by simp only [SOp.opds, List.mem_map]; exact ⟨p, hp, rfl⟩))]
   rw [this]
 case load agg n x =>
   obtain ⟨h1, h2⟩ := hl rfl
   subst h2
   have hx := h x (by simp [SOp.opds])
   simp only [SOp.ev, hx, Env.box, h1]
 case lkc s ok agg zero x k =>
   obtain ⟨h1, h2⟩ := hl rfl
   subst h2
   have hx := hv_congr (h x (by simp [SOp.opds]))
   have hk := hv_congr (h k (by simp [SOp.opds]))
   simp only [SOp.ev, hx, hk]
 case mkfn g xs => simp only [SOp.ev, hvs_congr (fun y hy => h y (by simpa [SOp.opds] using hy))]
 case slc sz x lo hi mx =>
   have h1 := hv_congr (h x (by simp [SOp.opds]))
   have h2 : ∀ d, bnd e d lo = bnd e' d lo := fun d => bnd_congr (fun y hy => h y (by simp only [SOp.opds, List.mem_cons, List.mem_append]; exact .inr (.inl (.inl hy))))
   have h3 : ∀ d, bnd e d hi = bnd e' d hi := fun d => bnd_congr (fun y hy => h y (by simp only [SOp.opds, List.mem_cons, List.mem_append]; exact .inr (.inl (.inr hy))))
   have h4 : ∀ d, bnd e d mx = bnd e' d mx := fun d => bnd_congr (fun y hy => h y (by simp only [SOp.opds, List.mem_cons, List.mem_append]; exact .inr (.inr hy)))
   cases mx with
   | none => simp only [SOp.ev, h1, h2, h3, h4]
   | some m =>
     have h5 := hv_congr (h m (by simp [SOp.opds]))
     simp only [SOp.ev, h1, h2, h3, h4, h5]
 case ssl x lo hi =>
   have h1 := hv_congr (h x (by simp [SOp.opds]))
   have h2 : ∀ d, bnd e d lo = bnd e' d lo := fun d => bnd_congr (fun y hy => h y (by simp only [SOp.opds, List.mem_cons, List.mem_append]; exact .inr (.inl hy)))
   have h3 : ∀ d, bnd e d hi = bnd e' d hi := fun d => bnd_congr (fun y hy => h y (by simp only [SOp.opds, List.mem_cons, List.mem_append]; exact .inr (.inr hy)))
   simp only [SOp.ev, h1, h2, h3]
 case pick c a b =>
   have h1 := hv_congr (h c (by simp [SOp.opds]))
   have h2 := h a (by simp [SOp.opds])
   have h3 := h b (by simp [SOp.opds])
   simp only [SOp.ev, h1, h2, h3]
 case mv x => simp only [SOp.ev, h x (by simp [SOp.opds])]
 case nilc x => simp only [SOp.ev, h x (by simp [SOp.opds])]
 case fld off x => simp only [SOp.ev, h x (by simp [SOp.opds])]
 case aidx l sz x i => simp only [SOp.ev, h x (by simp [SOp.opds]), hv_congr (h i (by simp [SOp.opds]))]
 case not x => simp only [SOp.ev, hv_congr (h x (by simp [SOp.opds]))]
 case com x => simp only [SOp.ev, hv_congr (h x (by simp [SOp.opds]))]
 case asl n sz x lo hi =>
   have h1 := hv_congr (h x (by simp [SOp.opds]))
   have h2 : ∀ d, bnd e d lo = bnd e' d lo := fun d => bnd_congr (fun y hy => h y (by simp only [SOp.opds, List.mem_cons, List.mem_append]; exact .inr (.inl hy)))
   have h3 : ∀ d, bnd e d hi = bnd e' d hi := fun d => bnd_congr (fun y hy => h y (by simp only [SOp.opds, List.mem_cons, List.mem_append]; exact .inr (.inr hy)))
   simp only [SOp.ev, h1, h2, h3]
 case neg x => simp only [SOp.ev, hv_congr (h x (by simp [SOp.opds]))]
 case conv k x => simp only [SOp.ev, hv_congr (h x (by simp [SOp.opds]))]
 case idc x => simp only [SOp.ev, hv_congr (h x (by simp [SOp.opds]))]
 case b2c x => simp only [SOp.ev, hv_congr (h x (by simp [SOp.opds]))]
 case field agg off n x => simp only [SOp.ev, hv_congr (h x (by simp [SOp.opds]))]
 case len x => simp only [SOp.ev, hv_congr (h x (by simp [SOp.opds]))]
 case slen x => simp only [SOp.ev, hv_congr (h x (by simp [SOp.opds]))]
 case ext x i => simp only [SOp.ev, hv_congr (h x (by simp [SOp.opds]))]
 case int op x y =>
   have h1 := hv_congr (h x (by simp [SOp.opds]))
   have h2 := hv_congr (h y (by simp [SOp.opds]))
   simp only [SOp.ev, h1, h2]
 case str op x y =>
   have h1 := hv_congr (h x (by simp [SOp.opds]))
   have h2 := hv_congr (h y (by simp [SOp.opds]))
   simp only [SOp.ev, h1, h2]
 case eq k ne x y =>
   have h1 := hv_congr (h x (by simp [SOp.opds]))
   have h2 := hv_congr (h y (by simp [SOp.opds]))
   simp only [SOp.ev, h1, h2]
 case idx sz x y =>
   have h1 := hv_congr (h x (by simp [SOp.opds]))
   have h2 := hv_congr (h y (by simp [SOp.opds]))
   simp only [SOp.ev, h1, h2]
 case sidx x y =>
   have h1 := hv_congr (h x (by simp [SOp.opds]))
   have h2 := hv_congr (h y (by simp [SOp.opds]))
   simp only [SOp.ev, h1, h2]
 case mm mx x y =>
   have h1 := hv_congr (h x (by simp [SOp.opds]))
   have h2 := hv_congr (h y (by simp [SOp.opds]))
   simp only [SOp.ev, h1, h2]
 all_goals rfl
end
end Sm
namespace Sm
open Go
def Live (e : Env) : Prop := ∀ t k o, e.sl t = some (.lp k o) → (e.bx k).isSome = true
def Opd.isS (d : Nat) : Opd → Bool
 | .s t => decide (t = d)
 | _ => false
def SOp.priv : SOp → Bool
 | .alloc (some _) _ => true
 | .box (some _) _ _ => true
 | _ => false
def SOp.early : SOp → Bool
 | .alloc (some _) _ => true
 | .box (some _) _ _ => true
 | .bslice _ _ => true
 | o => o.calm
def noStore (y : SOp) : Bool :=
 match y with
 | .store .. => false
 | _ => true
def SOp.isBs : SOp → Bool
 | .bslice .. => true
 | _ => false
def SOp.w3 : SOp → Bool
 | .call .. | .callv .. | .store .. | .app .. | .hop .. => true
 | _ => false
def SOp.fe (o : SOp) (e : Env) (H : Heap) : Option (Option (Nat × List HV) × EV) :=
 match o with
 | .alloc (some k) cs => if (e.box k).isNone then some (some (k, cs), .lp k 0) else none
 | .box (some k) n x => match e.hv x with
   | some h => if h.ncells = n ∧ h.el = true ∧ (e.box k).isNone = true then some (some (k, h.cells), .lp k 0) else none
   | none => none
 | .bslice sz ps => match e.hvs ps with
   | some hs => if hs.all HV.el = true ∧ (hs.all fun h => decide (h.ncells = sz)) = true then some (none, .h (.sl .full sz hs)) else none
   | none => none
 | .alloc none _ | .box none _ _ | .store .. | .app .. | .call .. | .callv .. | .nd .. | .hop .. => none
 | o => (o.ev e H).map fun x => (none, x)
def addb (kc : Option (Nat × List HV)) (e : Env) : Env :=
 match kc with
 | some (k, cs) => e.setb k cs
 | none => e
theorem step_early {S : SpecT} {o : SOp} (ho : o.early = true) {e : Env} {H : Heap} {K : EV → Env → Heap → Prop} : o.step S e H K ↔ ∃ p, o.fe e H = some p ∧ K p.2 (addb p.1 e) H := by
 cases o
 case alloc loc cs =>
   cases loc with
   | none => simp [SOp.early, SOp.calm] at ho
   | some k =>
     simp only [SOp.step, SOp.fe]
     constructor
     · rintro ⟨h1, h2⟩; exact ⟨_, by rw [if_pos (by simp [h1])], h2⟩
     · rintro ⟨p, h1, h2⟩
       split at h1
       · rename_i hn; simp only [Option.some.injEq] at h1; subst h1; exact ⟨by simpa using hn, h2⟩
       · cases h1
 case box loc n x =>
   cases loc with
   | none => simp [SOp.early, SOp.calm] at ho
   | some k =>
     simp only [SOp.step, SOp.fe]
     cases hx : e.hv x with
     | none => simp
     | some h =>
       simp only
       constructor
       · rintro ⟨h1, h2, h3, h4⟩; exact ⟨_, by rw [if_pos ⟨h1, h2, by simp [h3]⟩], h4⟩
       · rintro ⟨p, h1, h2⟩
         split at h1
         · rename_i hn; simp only [Option.some.injEq] at h1; subst h1; exact ⟨hn.1, hn.2.1, by simpa using hn.2.2, h2⟩
         · cases h1
 case bslice sz ps =>
   simp only [SOp.step, SOp.fe]
   cases hx : e.hvs ps with
   | none => simp
   | some hs =>
     simp only
     constructor
     · rintro ⟨h1, h2, h3⟩; exact ⟨_, by rw [if_pos ⟨h1, by simpa using h2⟩], h3⟩
     · rintro ⟨p, h1, h2⟩
       split at h1
       · rename_i hn; simp only [Option.some.injEq] at h1; subst h1; exact ⟨hn.1, by simpa using hn.2, h2⟩
       · cases h1
 case store => simp [SOp.early, SOp.calm] at ho
 case app => simp [SOp.early, SOp.calm] at ho
 case call => simp [SOp.early, SOp.calm] at ho
 case callv => simp [SOp.early, SOp.calm] at ho
 case nd => simp [SOp.early, SOp.calm] at ho
 case hop => simp [SOp.early, SOp.calm] at ho
 all_goals
   simp only [SOp.step, SOp.fe]
   constructor
   · intro h
     split at h
     · rename_i x hx; exact ⟨(none, x), by rw [hx]; rfl, h⟩
     · exact h.elim
   · rintro ⟨p, h1, h2⟩
     obtain ⟨x, hx, rfl⟩ := Option.map_eq_some_iff.1 h1
     rw [hx]; exact h2
def SOper.fe (x : SOper) (e : Env) (H : Heap) : Option (Option (Nat × List HV) × EV) :=
 match x.guard with
 | none => x.op.fe e H
 | some (t, want) => match e.get t with
   | some (.h (.v (.bool b))) => if b = want then x.op.fe e H else some (none, .h .undef)
   | some (.h (.v (.tuple _))) => some (none, .h .undef)
   | _ => none
theorem rsem1_early {S : SpecT} {x : SOper} (ho : x.op.early = true) {e : Env} {H : Heap} {K : Env → Heap → Prop} : rsem1 S x e H K ↔ ∃ p, x.fe e H = some p ∧ K ((addb p.1 e).put x.dst p.2) H := by
 unfold rsem1 SOper.fe
 cases hg : x.guard with
 | none => exact step_early ho
 | some q =>
   obtain ⟨t, want⟩ := q
   simp only
   cases hget : e.get t with
   | none => simp
   | some ev =>
     have bcase : ∀ b, ev = .h (.v (.bool b)) → (((b = want → x.op.step S (e.put (some t) (.h (.v (.bool want)))) H fun x_1 e' H' => K (e'.put x.dst x_1) H') ∧ (b = !want → K ((e.put (some t) (.h (.v (.bool (!want))))).put x.dst (.h .undef)) H)) ↔
         ∃ p, (if b = want then x.op.fe e H else some (none, EV.h .undef)) = some p ∧ K ((addb p.1 e).put x.dst p.2) H) := by
       rintro b rfl
       constructor
       · rintro ⟨h1, h2⟩
         by_cases hbw : b = want
         · subst hbw
           have h1 := h1 rfl
           rw [put_same hget] at h1
           obtain ⟨p, hp, hk⟩ := (step_early ho).1 h1
           exact ⟨p, by rw [if_pos rfl]; exact hp, hk⟩
         · have hbn : b = !want := by cases b <;> cases want <;> simp_all
           have h3 := h2 hbn
           subst hbn
           rw [put_same hget] at h3
           exact ⟨(none, .h .undef), by rw [if_neg hbw], h3⟩
       · rintro ⟨p, hp, hk⟩
         by_cases hbw : b = want
         · subst hbw
           rw [if_pos rfl] at hp
           refine ⟨fun _ => ?_, fun hn => by cases b <;> cases hn⟩
           rw [put_same hget]
           exact (step_early ho).2 ⟨p, hp, hk⟩
         · rw [if_neg hbw] at hp
           simp only [Option.some.injEq] at hp; subst hp
           have hbn : b = !want := by cases b <;> cases want <;> simp_all
           refine ⟨fun h => absurd h hbw, fun _ => ?_⟩
           subst hbn
           rw [put_same hget]
           exact hk
     cases ev with
     | lp k o => simp
     | h hv =>
       cases hv with
       | v u =>
         cases u
         case bool b => exact bcase b rfl
         all_goals simp [addb]
       | _ => simp
def Keeps (e : Env) (H : Heap) (e1 : Env) (H1 : Heap) : Prop := ∀ o : SOp, o.isLoad = true → ∀ x, o.ev e H = some x → (∀ z ∈ o.opds, e1.opd z = e.opd z) → o.ev e1 H1 = some x
theorem Keeps.refl (e : Env) (H : Heap) : Keeps e H e H := fun _ _ _ h _ => h
theorem Keeps.setb {e : Env} {H : Heap} {k : Nat} {cs : List HV} (hk : e.box k = none) : Keeps e H (e.setb k cs) H := by
 intro o ho x hx hz
 cases o <;> simp only [SOp.isLoad, Bool.false_eq_true] at ho
 case load agg n z =>
   have hz := hz z (by simp [SOp.opds])
   simp only [SOp.ev, hz] at hx ⊢
   split at hx
   · exact hx
   · exact hx
   · rename_i k' off _
     have hne : k ≠ k' := by rintro rfl; rw [hk] at hx; cases hx
     simp only [Env.box, Env.setb, upd, if_neg hne] at hx ⊢
     exact hx
   · exact hx
 case lkc s ok agg zero y k' =>
   have h1 := hv_congr (hz y (by simp [SOp.opds]))
   have h2 := hv_congr (hz k' (by simp [SOp.opds]))
   simp only [SOp.ev, h1, h2] at hx ⊢; exact hx
theorem Keeps.upd {e : Env} {H : Heap} {b : Nat} {r : Option Res} (hb : H b = none) : Keeps e H e (H.upd b r) := by
 intro o ho x hx hz
 cases o <;> simp only [SOp.isLoad, Bool.false_eq_true] at ho
 case load agg n z =>
   simp only [SOp.ev] at hx ⊢
   split at hx
   · rename_i b0 off h0
     split at hx
     · rename_i cs' hcs
       have : b0 ≠ b := by rintro rfl; rw [hb] at hcs; cases hcs
       simp only [Heap.upd, if_neg this, hcs]; exact hx
     · cases hx
   · exact hx
   · exact hx
   · exact hx
 case lkc s ok agg zero y k' =>
   simp only [SOp.ev] at hx ⊢
   split at hx
   · rename_i b0 kv h0 h1
     split at hx
     · rename_i hik
       split at hx
       · rename_i es c hcs
         have : b0 ≠ b := by rintro rfl; rw [hb] at hcs; cases hcs
         rw [if_pos hik]
         simp only [Heap.upd, if_neg this, hcs]; exact hx
       · cases hx
     · cases hx
   · cases hx
theorem opd_put {e : Env} {d : Option Nat} {v : EV} {z : Opd} (h : ∀ t, d = some t → z.isS t = false) : (e.put d v).opd z = e.opd z := by
 cases d with
 | none => rfl
 | some t =>
   have := h t rfl
   cases z with
   | s s =>
     simp only [Opd.isS, decide_eq_false_iff_not] at this
     simp only [Env.opd, Env.get, Env.put, upd]
     rw [if_neg (fun e => this e.symm)]
   | c v => rfl
   | f g => rfl
   | g j => rfl
theorem opd_addb {e : Env} {kc : Option (Nat × List HV)} {z : Opd} : (addb kc e).opd z = e.opd z := by
 cases kc with
 | none => rfl
 | some p => rfl
theorem step_frame {S : SpecT} (hS : SMono S) (y : SOp) {e : Env} {H : Heap} {kc : Option (Nat × List HV)} {d : Option Nat} {v : EV} {K : EV → Env → Heap → Prop}
   (hd : ∀ t, d = some t → ∀ z ∈ y.opds, z.isS t = false) (hkc : kc.isSome = true → y.isLoad = false ∧ y.priv = false ∧ noStore y = true)
   (h : y.step S ((addb kc e).put d v) H K) :
   y.step S e H fun u e1 H1 => K u ((addb kc e1).put d v) H1 ∧ e1.sl = e.sl ∧ (y.priv = false → noStore y = true → e1.bx = e.bx) ∧
     (y.w3 = false → Keeps e H e1 H1) := by
 have hop : ∀ z ∈ y.opds, ((addb kc e).put d v).opd z = e.opd z := fun z hz => (opd_put (fun t ht => hd t ht z hz)).trans opd_addb
 have hhv : ∀ z ∈ y.opds, ((addb kc e).put d v).hv z = e.hv z := fun z hz => hv_congr (hop z hz)
 have hbx : kc = none → ((addb kc e).put d v).bx = e.bx := by rintro rfl; cases d <;> rfl
 have hsetb : kc = none → ∀ k cs, (((addb kc e).put d v).setb k cs) = (addb kc (e.setb k cs)).put d v := by rintro rfl k cs; cases d <;> rfl
 have calm : ∀ o : SOp, o.opds = y.opds → (∀ z ∈ o.opds, ((addb kc e).put d v).opd z = e.opd z) → (o.isLoad = true → kc = none) → o.ev ((addb kc e).put d v) H = o.ev e H := by
   intro o _ h1 h2
   exact ev_congr o h1 (fun hl => ⟨hbx (h2 hl), rfl⟩)
 cases y
 case alloc loc cs =>
   cases loc with
   | some k =>
     have hk : kc = none := by
       cases kc with
       | none => rfl
       | some p => exact absurd (hkc rfl).2.1 (by simp [SOp.priv])
     subst hk
     simp only [SOp.step] at h ⊢
     obtain ⟨h1, h2⟩ := h
     have h1' : e.box k = none := by rw [← h1]; cases d <;> rfl
     refine ⟨h1', ?_, (by first | rfl | simp), (by simp [SOp.priv]), fun _ => Keeps.setb h1'⟩
     rw [hsetb rfl] at h2; exact h2
   | none =>
     simp only [SOp.step] at h ⊢
     intro b hb
     refine ⟨h b hb, (by first | rfl | simp), (by simp [noStore]), fun _ => Keeps.upd hb⟩
 case box loc n x0 =>
   have hx0 := hhv x0 (by simp [SOp.opds])
   simp only [SOp.step, hx0] at h ⊢
   split at h
   · rename_i h' hh
     obtain ⟨g1, g2, g3⟩ := h
     refine ⟨g1, g2, ?_⟩
     cases loc with
     | some k =>
       have hk : kc = none := by
         cases kc with
         | none => rfl
         | some p => exact absurd (hkc rfl).2.1 (by simp [SOp.priv])
       subst hk
       obtain ⟨h1, h2⟩ := g3
       have h1' : e.box k = none := by rw [← h1]; cases d <;> rfl
       refine ⟨h1', ?_, (by first | rfl | simp), (by simp [SOp.priv]), fun _ => Keeps.setb h1'⟩
       rw [hsetb rfl] at h2; exact h2
     | none =>
       intro b hb
       refine ⟨g3 b hb, (by first | rfl | simp), (by simp [noStore]), fun _ => Keeps.upd hb⟩
   · exact h.elim
 case bslice sz ps =>
   have := hvs_congr (e := (addb kc e).put d v) (e' := e) (xs := ps) (fun z hz => hop z (by simpa [SOp.opds] using hz))
   simp only [SOp.step, this] at h ⊢
   split at h
   · exact ⟨h.1, h.2.1, h.2.2, (by first | rfl | simp), (by simp [noStore]), fun _ => Keeps.refl _ _⟩
   · exact h.elim
 case store n0 a0 x0 =>
   have hk : kc = none := by
     cases kc with
     | none => rfl
     | some p => exact absurd (hkc rfl).2.2 (by simp [noStore])
   subst hk
   have hx0 := hhv x0 (by simp [SOp.opds])
   have ha0 := hop a0 (by simp [SOp.opds])
   simp only [SOp.step, hx0, ha0] at h ⊢
   split at h
   · obtain ⟨g1, g2, g3⟩ := h
     refine ⟨g1, g2, ?_⟩
     split at g3
     · split at g3
       · exact ⟨g3.1, g3.2, (by first | rfl | simp), (by simp [noStore]), fun hw => by simp [SOp.w3] at hw⟩
       · exact g3.elim
     · rename_i k off hop'
       have hb : ((addb none e).put d v).box k = e.box k := by cases d <;> rfl
       rw [hb] at g3
       split at g3
       · refine ⟨g3.1, ?_, (by first | rfl | simp), (by simp [noStore]), fun hw => by simp [SOp.w3] at hw⟩
         have := g3.2
         rw [hsetb rfl] at this
         exact this
       · exact g3.elim
     · exact g3.elim
   · exact h.elim
 case app sz bytes x0 y0 =>
   have hx0 := hhv x0 (by simp [SOp.opds])
   have hy0 := hhv y0 (by simp [SOp.opds])
   simp only [SOp.step, hx0, hy0] at h ⊢
   rcases h with h | h
   rotate_left
   · right
     split at h
     · exact appK_mono (fun h' H' hr => ⟨hr, (by first | rfl | simp), (by simp [noStore]), fun hw => by simp [SOp.w3] at hw⟩) h
     · exact h.elim
   left
   split at h
   · exact ⟨h.1, fun hy => ⟨h.2.1 hy, (by first | rfl | simp), (by simp [noStore]), fun hw => by simp [SOp.w3] at hw⟩, fun hy => ⟨(h.2.2 hy).1, fun b c hb => ⟨(h.2.2 hy).2 b c hb, (by first | rfl | simp), (by simp [noStore]), fun hw => by simp [SOp.w3] at hw⟩⟩⟩
   · exact ⟨h.1, h.2.1, fun hy => ⟨h.2.2.1 hy, (by first | rfl | simp), (by simp [noStore]), fun hw => by simp [SOp.w3] at hw⟩, fun hy => ⟨(h.2.2.2 hy).1, fun b c hb => ⟨(h.2.2.2 hy).2 b c hb, (by first | rfl | simp), (by simp [noStore]), fun hw => by simp [SOp.w3] at hw⟩⟩⟩
   · exact ⟨h.1, h.2.1, h.2.2.1, h.2.2.2.1, fun b' c' hb => ⟨h.2.2.2.2 b' c' hb, (by first | rfl | simp), (by simp [noStore]), fun hw => by simp [SOp.w3] at hw⟩⟩
   · exact h.elim
 case hop f xs =>
   have := hvs_congr (e := (addb kc e).put d v) (e' := e) (xs := xs) (fun z hz => hop z (by simpa [SOp.opds] using hz))
   simp only [SOp.step, this] at h ⊢
   split at h
   · exact hopK_mono (fun h' H' hr => ⟨hr, (by first | rfl | simp), (by simp [noStore]), fun hw => by simp [SOp.w3] at hw⟩) h
   · exact h.elim
 case call g args =>
   have := hvs_congr (e := (addb kc e).put d v) (e' := e) (xs := args) (fun z hz => hop z (by simpa [SOp.opds] using hz))
   simp only [SOp.step, this] at h ⊢
   split at h
   · exact hS _ _ _ _ _ (fun h' H' hk => ⟨hk, (by first | rfl | simp), (by simp [noStore]), fun hw => by simp [SOp.w3] at hw⟩) h
   · exact h.elim
 case callv x0 args =>
   have h1 := hvs_congr (e := (addb kc e).put d v) (e' := e) (xs := args) (fun z hz => hop z (by simp [SOp.opds, hz]))
   have h2 := hhv x0 (by simp [SOp.opds])
   simp only [SOp.step, h1, h2] at h ⊢
   split at h
   · exact hS _ _ _ _ _ (fun h' H' hk => ⟨hk, (by first | rfl | simp), (by simp [noStore]), fun hw => by simp [SOp.w3] at hw⟩) h
   · exact hS _ _ _ _ _ (fun h' H' hk => ⟨hk, (by first | rfl | simp), (by simp [noStore]), fun hw => by simp [SOp.w3] at hw⟩) h
   · exact h.elim
 case nd f xs =>
   have := hvs_congr (e := (addb kc e).put d v) (e' := e) (xs := xs) (fun z hz => hop z (by simpa [SOp.opds] using hz))
   simp only [SOp.step, this] at h ⊢
   split at h
   · exact ndK_mono (fun h' hr => ⟨hr, (by first | rfl | simp), (by simp [noStore]), fun _ => Keeps.refl _ _⟩) h
   · exact h.elim
 case lkc s ok agg zero x0 k0 =>
   have hk : kc = none := by
     cases kc with
     | none => rfl
     | some p => exact absurd (hkc rfl).1 (by simp [SOp.isLoad])
   simp only [SOp.step] at h ⊢
   rw [calm (.lkc s ok agg zero x0 k0) rfl hop (fun _ => hk)] at h
   split at h
   · exact ⟨h, (by first | rfl | simp), (by simp [noStore]), fun _ => Keeps.refl _ _⟩
   · exact h.elim
 case load agg n x0 =>
   have hk : kc = none := by
     cases kc with
     | none => rfl
     | some p => exact absurd (hkc rfl).1 (by simp [SOp.isLoad])
   simp only [SOp.step] at h ⊢
   rw [calm (.load agg n x0) rfl hop (fun _ => hk)] at h
   split at h
   · exact ⟨h, (by first | rfl | simp), (by simp [noStore]), fun _ => Keeps.refl _ _⟩
   · exact h.elim
 all_goals
   simp only [SOp.step] at h ⊢
   rw [calm _ rfl hop (fun hl => by simp [SOp.isLoad] at hl)] at h
   split at h
   · exact ⟨h, (by first | rfl | simp), (by simp [noStore]), fun _ => Keeps.refl _ _⟩
   · exact h.elim
def notIn (d : Option Nat) (X : SOper) : Bool :=
 match d with
 | none => true
 | some d => X.op.opds.all (fun z => !z.isS d) && (match X.guard with
   | some (t, _) => decide (t ≠ d)
   | none => true)
theorem notIn_opds {d : Option Nat} {X : SOper} (h : notIn d X = true) : ∀ t, d = some t → ∀ z ∈ X.op.opds, z.isS t = false := by
 intro t ht z hz
 subst ht
 simp only [notIn, Bool.and_eq_true, List.all_eq_true] at h
 simpa using h.1 z hz
theorem notIn_guard {d : Option Nat} {X : SOper} (h : notIn d X = true) : ∀ t, d = some t → ∀ g w, X.guard = some (g, w) → g ≠ t := by
 intro t ht g w hg
 subst ht
 simp only [notIn, Bool.and_eq_true, hg, decide_eq_true_eq] at h
 exact h.2
theorem put_comm {e : Env} {kc : Option (Nat × List HV)} {d d' : Option Nat} {v u : EV} (h : ∀ t, d = some t → d' ≠ some t) : ((addb kc e).put d v).put d' u = (addb kc (e.put d' u)).put d v := by
 cases d with
 | none => cases d' <;> cases kc <;> rfl
 | some t =>
   cases d' with
   | none => cases kc <;> rfl
   | some t' =>
     have hne : t' ≠ t := fun e => h t rfl (by rw [e])
     have : ∀ (sl : Nat → Option EV), upd (upd sl t v) t' u = upd (upd sl t' u) t v := by
       intro sl; funext i
       simp only [upd]
       by_cases h1 : t' = i
       · subst h1; simp [hne.symm]
       · simp [h1]
     cases kc with
     | none => simp only [addb, Env.put, this]
     | some p => simp only [addb, Env.setb, Env.put, this]
theorem get_put_ne {e : Env} {kc : Option (Nat × List HV)} {d : Option Nat} {v : EV} {t : Nat} (h : d ≠ some t) : ((addb kc e).put d v).get t = e.get t := by
 cases d with
 | none => cases kc <;> rfl
 | some s =>
   have : s ≠ t := fun e => h (by rw [e])
   cases kc <;> simp only [addb, Env.setb, Env.put, Env.get, upd, if_neg this]
def Facts (Y : SOper) (e : Env) (H : Heap) (e1 : Env) (H1 : Heap) : Prop :=
 (∀ t, Y.dst ≠ some t → e1.sl t = e.sl t) ∧ (Y.op.priv = false → noStore Y.op = true → e1.bx = e.bx) ∧
 (Y.op.w3 = false → ∀ o : SOp, o.isLoad = true → ∀ x, o.ev e H = some x → (∀ t, Y.dst = some t → ∀ z ∈ o.opds, z.isS t = false) → o.ev e1 H1 = some x)
theorem put_bx {e : Env} {d : Option Nat} {v : EV} : (e.put d v).bx = e.bx := by cases d <;> rfl
theorem put_sl {e : Env} {d : Option Nat} {v : EV} {t : Nat} (h : d ≠ some t) : (e.put d v).sl t = e.sl t := by
 cases d with
 | none => rfl
 | some s =>
   have : s ≠ t := fun e => h (by rw [e])
   simp only [Env.put, upd, if_neg this]
theorem facts_put {Y : SOper} {e e1 : Env} {H H1 : Heap} {u : EV} (h1 : e1.sl = e.sl) (h2 : Y.op.priv = false → noStore Y.op = true → e1.bx = e.bx)
   (h3 : Y.op.w3 = false → Keeps e H e1 H1) : Facts Y e H (e1.put Y.dst u) H1 := by
 refine ⟨fun t ht => by rw [put_sl ht, h1], fun a b => by rw [put_bx]; exact h2 a b, fun a o ho x hx hz => ?_⟩
 have hz1 : ∀ z, e1.opd z = e.opd z := fun z => by cases z <;> simp only [Env.opd, Env.get, h1]
 rw [ev_congr (e := e1.put Y.dst u) (e' := e1) (H := H1) (H' := H1) o (fun z hm => opd_put (fun t ht => hz t ht z hm)) (fun _ => ⟨put_bx, rfl⟩)]
 exact h3 a o ho x hx (fun z _ => hz1 z)
theorem rsem1_frame {S : SpecT} (hS : SMono S) (Y : SOper) {e : Env} {H : Heap} {kc : Option (Nat × List HV)} {d : Option Nat} {v : EV} {K : Env → Heap → Prop}
   (hd : notIn d Y = true) (hdd : ∀ t, d = some t → Y.dst ≠ some t) (hkc : kc.isSome = true → Y.op.isLoad = false ∧ Y.op.priv = false ∧ noStore Y.op = true)
   (h : rsem1 S Y ((addb kc e).put d v) H K) : rsem1 S Y e H fun e1 H1 => K ((addb kc e1).put d v) H1 ∧ Facts Y e H e1 H1 := by
 have ho := notIn_opds hd
 have main : Y.op.step S ((addb kc e).put d v) H (fun x e' H' => K (e'.put Y.dst x) H') → Y.op.step S e H (fun x e' H' => K ((addb kc (e'.put Y.dst x)).put d v) H' ∧ Facts Y e H (e'.put Y.dst x) H') := by
   intro hh
   refine step_mono hS ?_ _ (step_frame hS Y.op ho hkc hh)
   intro x e' H' ⟨h1, h2, h3, h4⟩
   rw [put_comm hdd] at h1
   exact ⟨h1, facts_put h2 h3 h4⟩
 unfold rsem1 at h ⊢
 cases hg : Y.guard with
 | none => rw [hg] at h; exact main h
 | some q =>
   obtain ⟨t, want⟩ := q
   rw [hg] at h
   simp only at h ⊢
   have htd : d ≠ some t := fun e1 => by
     have := notIn_guard hd t e1 t want hg
     exact this rfl
   rw [get_put_ne htd] at h
   cases hget : e.get t with
   | none => rw [hget] at h; exact h.elim
   | some ev =>
     rw [hget] at h
     cases ev with
     | lp k o => exact h.elim
     | h hv =>
       cases hv with
       | v u =>
         cases u
         case bool b =>
           simp only at h ⊢
           have hb : ∀ c, b = c → ((addb kc e).put d v).put (some t) (.h (.v (.bool c))) = (addb kc e).put d v := by
             intro c hc; subst hc
             exact put_same (by rw [get_put_ne htd]; exact hget)
           refine ⟨fun hbw => ?_, fun hbn => ?_⟩
           · have h1 := h.1 hbw
             rw [hb want hbw] at h1
             subst hbw
             rw [put_same hget]
             exact main h1
           · have h2 := h.2 hbn
             rw [hb _ hbn] at h2
             subst hbn
             rw [put_same hget]
             rw [put_comm hdd] at h2
             exact ⟨h2, facts_put rfl (fun _ _ => rfl) (fun _ => Keeps.refl _ _)⟩
         case tuple us =>
           simp only at h ⊢
           rw [put_comm hdd] at h
           exact ⟨h, facts_put rfl (fun _ _ => rfl) (fun _ => Keeps.refl _ _)⟩
         all_goals exact h.elim
       | _ => exact h.elim
theorem fe_calm {o : SOp} (h1 : o.early = true) (h2 : o.priv = false) (h3 : o.isBs = false) {e : Env} {H : Heap} : o.fe e H = (o.ev e H).map fun x => (none, x) := by
 cases o
 case alloc loc cs => cases loc <;> simp [SOp.priv, SOp.early, SOp.calm] at h1 h2
 case box loc n x => cases loc <;> simp [SOp.priv, SOp.early, SOp.calm] at h1 h2
 case bslice => simp [SOp.isBs] at h3
 case store => simp [SOp.early, SOp.calm] at h1
 case app => simp [SOp.early, SOp.calm] at h1
 case call => simp [SOp.early, SOp.calm] at h1
 case callv => simp [SOp.early, SOp.calm] at h1
 case nd => simp [SOp.early, SOp.calm] at h1
 case hop => simp [SOp.early, SOp.calm] at h1
 all_goals rfl
theorem fe_stable {o : SOp} (ho : o.early = true) {e e1 : Env} {H H1 : Heap} {p} (h : ∀ z ∈ o.opds, e1.opd z = e.opd z) (hp : o.priv = true → e1.bx = e.bx) (hl : o.isLoad = true → ∀ x, o.ev e H = some x → p = (none, x) → o.ev e1 H1 = some x)
   (hfe : o.fe e H = some p) : o.fe e1 H1 = some p := by
 cases o
 case alloc loc cs =>
   cases loc with
   | none => simp [SOp.early, SOp.calm] at ho
   | some k =>
     simp only [SOp.fe, Env.box, hp rfl] at hfe ⊢; exact hfe
 case box loc n x =>
   cases loc with
   | none => simp [SOp.early, SOp.calm] at ho
   | some k =>
     have := hv_congr (h x (by simp [SOp.opds]))
     simp only [SOp.fe, Env.box, hp rfl, this] at hfe ⊢; exact hfe
 case bslice sz ps =>
   have := hvs_congr (e := e1) (e' := e) (xs := ps) (fun z hz => h z (by simpa [SOp.opds] using hz))
   simp only [SOp.fe, this] at hfe ⊢; exact hfe
 case store => simp [SOp.early, SOp.calm] at ho
 case app => simp [SOp.early, SOp.calm] at ho
 case call => simp [SOp.early, SOp.calm] at ho
 case callv => simp [SOp.early, SOp.calm] at ho
 case nd => simp [SOp.early, SOp.calm] at ho
 case hop => simp [SOp.early, SOp.calm] at ho
 case load agg n x =>
   rw [fe_calm ho rfl rfl] at hfe ⊢
   obtain ⟨y, hy, rfl⟩ := Option.map_eq_some_iff.1 hfe
   rw [hl rfl y hy rfl]; rfl
 case lkc s ok agg zero x k =>
   rw [fe_calm ho rfl rfl] at hfe ⊢
   obtain ⟨y, hy, rfl⟩ := Option.map_eq_some_iff.1 hfe
   rw [hl rfl y hy rfl]; rfl
 all_goals
   rw [fe_calm ho rfl rfl] at hfe ⊢
   rw [ev_congr _ h (fun hl' => by simp [SOp.isLoad] at hl')]
   exact hfe
def swapOk (L : List DOper) (x y : Nat) : Bool :=
 let X := (L[x]!).o
 let Y := (L[y]!).o
 X.op.early && X.dst.isSome && notIn X.dst Y && notIn X.dst X && decide (X.dst ≠ Y.dst) && notIn Y.dst X &&
   (!X.op.priv || (!Y.op.isLoad && !Y.op.priv && noStore Y.op)) && (!(X.op.isLoad && Y.op.w3) || (L[y]!).rc.contains x)
theorem swap {S : SpecT} (hS : SMono S) {X Y : SOper} (hX : X.op.early = true) (hXd : X.dst.isSome = true) (h1 : notIn X.dst Y = true) (h0 : notIn X.dst X = true) (h2 : X.dst ≠ Y.dst) (h3 : notIn Y.dst X = true)
   (h4 : X.op.priv = true → Y.op.isLoad = false ∧ Y.op.priv = false ∧ noStore Y.op = true) {e : Env} {H : Heap} {K : Env → Heap → Prop} (hrc : X.op.isLoad = true → Y.op.w3 = true → ∀ e2 H2, K e2 H2 → rc1 X e2 H2)
   (h : rsem1 S X e H fun e1 H1 => rsem1 S Y e1 H1 K) : rsem1 S Y e H fun e1 H1 => rsem1 S X e1 H1 K := by
 obtain ⟨p, hp, hy⟩ := (rsem1_early hX).1 h
 have hdd : ∀ t, X.dst = some t → Y.dst ≠ some t := fun t ht hy => h2 (by rw [ht, hy])
 have hkcp : p.1.isSome = true → X.op.priv = true := by
   intro hs
   unfold SOper.fe at hp
   have key : ∀ q, X.op.fe e H = some q → q.1.isSome = true → X.op.priv = true := by
     intro q hq hs
     cases hpr : X.op.priv with
     | true => rfl
     | false =>
       by_cases hb : X.op.isBs = false
       · rw [fe_calm hX hpr hb] at hq
         obtain ⟨y, _, rfl⟩ := Option.map_eq_some_iff.1 hq
         simp at hs
       · cases hop : X.op <;> simp only [hop, SOp.isBs, not_true_eq_false] at hb hq
         simp only [SOp.fe] at hq
         split at hq
         · split at hq
           · simp only [Option.some.injEq] at hq; subst hq; simp at hs
           · cases hq
         · cases hq
   split at hp
   · exact key p hp hs
   · split at hp
     · split at hp
       · exact key p hp hs
       · simp only [Option.some.injEq] at hp; subst hp; simp at hs
     · simp only [Option.some.injEq] at hp; subst hp; simp at hs
     · cases hp
 have hf := rsem1_frame hS Y h1 hdd (fun hs => h4 (hkcp hs)) hy
 refine rsem1_mono hS ?_ _ _ _ hf
 intro e1 H1 ⟨hk, f1, f2, f3⟩
 refine (rsem1_early hX).2 ⟨p, ?_, hk⟩
 have hopd : ∀ z ∈ X.op.opds, e1.opd z = e.opd z := by
   intro z hz
   cases z with
   | s s =>
     simp only [Env.opd, Env.get]
     refine f1 s (fun hd => ?_)
     have := notIn_opds h3 s hd (.s s) hz
     simp [Opd.isS] at this
   | c v => rfl
   | f g => rfl
   | g j => rfl
 have hgd : ∀ g w, X.guard = some (g, w) → e1.get g = e.get g := fun g w hg => f1 g (fun hd => notIn_guard h3 g hd g w hg rfl)
 have exec : X.op.fe e H = some p → (∀ g w, X.guard = some (g, w) → e.get g = some (.h (.v (.bool w)))) → X.op.fe e1 H1 = some p := by
   intro hfe hgw
   refine fe_stable hX hopd (fun hpr => f2 (h4 hpr).2.1 (h4 hpr).2.2) (fun hl x hx hpx => ?_) hfe
   cases hw : Y.op.w3 with
   | false =>
     exact f3 hw X.op hl x hx (fun t ht z hz => notIn_opds h3 t ht z hz)
   | true =>
     have hr := hrc hl hw _ _ hk
     subst hpx
     unfold rc1 at hr
     cases hXd' : X.dst with
     | none => rw [hXd'] at hXd; cases hXd
     | some dx =>
       have hget : ((addb none e1).put (some dx) x).get dx = some x := by simp [addb, Env.put, Env.get, upd]
       have hev : X.op.ev ((addb none e1).put (some dx) x) H1 = X.op.ev e1 H1 := by
         refine ev_congr _ (fun z hz => ?_) (fun _ => ⟨put_bx, rfl⟩)
         exact opd_put (fun t ht => notIn_opds h0 t (by rw [hXd', ht]) z hz)
       rw [hXd'] at hr
       cases hg : X.guard with
       | none =>
         rw [hg] at hr
         simp only at hr
         rw [hev, hget] at hr; exact hr
       | some q =>
         obtain ⟨g, w⟩ := q
         rw [hg] at hr
         simp only at hr
         have hgne : g ≠ dx := notIn_guard h0 dx hXd' g w hg
         have := hr (by rw [get_put_ne (kc := none) (d := some dx) (fun he => hgne (by injection he with he; exact he.symm)), hgd g w hg]; exact hgw g w hg)
         rw [hev, hget] at this; exact this
 unfold SOper.fe at hp ⊢
 cases hg : X.guard with
 | none => rw [hg] at hp; exact exec hp (fun g w hgw => by rw [hg] at hgw; cases hgw)
 | some q =>
   obtain ⟨g, w⟩ := q
   rw [hg] at hp
   simp only at hp ⊢
   rw [hgd g w hg]
   cases hget : e.get g with
   | none => rw [hget] at hp; cases hp
   | some ev =>
     rw [hget] at hp
     cases ev with
     | lp k o => exact hp
     | h hv =>
       cases hv with
       | v u =>
         cases u
         case bool b =>
           simp only at hp ⊢
           by_cases hbw : b = w
           · subst hbw
             rw [if_pos rfl] at hp ⊢
             exact exec hp (fun g' w' hgw => by rw [hg] at hgw; injection hgw with hgw; injection hgw with ha hb; subst ha; subst hb; exact hget)
           · rw [if_neg hbw] at hp ⊢; exact hp
         all_goals exact hp
       | _ => exact hp
def swapA (L : List DOper) (x y : Nat) : Bool :=
 let X := (L[x]!).o
 let Y := (L[y]!).o
 (match X.op, Y.op, Y.dst with
   | .call _ _, .alloc none _, some _ => true
   | _, _, _ => false) && X.guard.isNone && Y.guard.isNone && notIn Y.dst X && decide (X.dst ≠ Y.dst) && (L[y]!).rc.isEmpty
def swapB (L : List DOper) (x y : Nat) : Bool := swapOk L x y || swapA L x y
def SFrame (S : SpecT) : Prop := ∀ g hs H b r (Q : HV → Heap → Prop), H b = none → S g hs H Q → S g hs (H.upd b (some r)) fun h X => ∃ H', H' b = none ∧ X = H'.upd b (some r) ∧ Q h H'
theorem swap_a {S : SpecT} (hF : SFrame S) (hS : SMono S) {X Y : SOper} {g : Nat} {args : List Opd} {cs : List HV} {dy : Nat} (hX : X.op = .call g args) (hXg : X.guard = none) (hY : Y.op = .alloc none cs) (hYg : Y.guard = none) (hYd : Y.dst = some dy)
   (h1 : notIn Y.dst X = true) (h2 : X.dst ≠ Y.dst) {e : Env} {H : Heap} {K : Env → Heap → Prop} (h : rsem1 S X e H fun e1 H1 => rsem1 S Y e1 H1 K) : rsem1 S Y e H fun e1 H1 => rsem1 S X e1 H1 K := by
 have hopd : ∀ (v : EV), ∀ z ∈ args, (e.put (some dy) v).opd z = e.opd z := fun v z hz =>
   opd_put (d := some dy) fun t ht => notIn_opds h1 t (by rw [hYd]; exact ht) z (by rw [hX]; exact hz)
 unfold rsem1 at h ⊢
 rw [hXg, hX] at h
 rw [hYg, hY]
 simp only [SOp.step] at h ⊢
 intro b hb
 rw [hXg, hX]
 simp only [SOp.step]
 rw [hYd, hvs_congr (hopd _)]
 cases hh : e.hvs args with
 | none => rw [hh] at h; exact h.elim
 | some hs =>
   rw [hh] at h
   simp only at h ⊢
   refine hS _ _ _ _ _ ?_ (hF _ _ _ _ (.obj cs) _ hb h)
   rintro v Z ⟨H', hb', rfl, hk⟩
   rw [hYg, hY] at hk
   simp only [SOp.step, hYd] at hk
   have := hk b hb'
   have e1 := put_comm (e := e) (kc := none) (d := X.dst) (d' := some dy) (v := .h v) (u := .h (.v (.pointer (some ⟨b, 0, none⟩)))) (fun t ht => by rw [← hYd]; intro hc; exact h2 (by rw [ht, hc]))
   simp only [addb] at e1
   rw [e1] at this; exact this
theorem live_put {e : Env} {d : Option Nat} {x : EV} (h : Live e) (hx : x.live e) : Live (e.put d x) := by
 intro t k o ht
 rw [put_bx]
 cases d with
 | none => exact h t k o ht
 | some d =>
   simp only [Env.put, upd] at ht
   split at ht
   · simp only [Option.some.injEq] at ht; subst ht; exact hx
   · exact h t k o ht
theorem live_setb {e : Env} {k : Nat} {cs : List HV} (h : Live e) : Live (e.setb k cs) := by
 intro t k' o ht
 simp only [Env.setb, upd]
 split
 · rfl
 · exact h t k' o ht
theorem opd_live {e : Env} (h : Live e) {z : Opd} {x : EV} (hz : e.opd z = some x) : x.live e := by
 cases x with
 | h v => trivial
 | lp k o =>
   cases z with
   | s t => exact h t k o hz
   | c v => simp [Env.opd] at hz
   | f g => simp [Env.opd] at hz
   | g j => simp [Env.opd] at hz
theorem ev_live {o : SOp} {e : Env} {H : Heap} (h : Live e) {x : EV} (hx : o.ev e H = some x) : x.live e := by
 cases x with
 | h v => trivial
 | lp k off =>
   cases o
   case mv z => exact opd_live h hx
   case pick c a b =>
     simp only [SOp.ev] at hx
     split at hx
     · split at hx
       · exact opd_live h hx
       · exact opd_live h hx
     · cases hx
   case nilc z =>
     simp only [SOp.ev] at hx
     split at hx
     · simp at hx
     · simp at hx
     · rename_i k' off' hz
       simp only [Option.some.injEq, EV.lp.injEq] at hx
       obtain ⟨rfl, rfl⟩ := hx
       exact opd_live h hz
     · simp at hx
     · simp at hx
     · cases hx
   case fld n z =>
     simp only [SOp.ev] at hx
     split at hx
     · simp at hx
     · split at hx <;> simp at hx
     · rename_i k' off' hz
       simp only [Option.some.injEq, EV.lp.injEq] at hx
       obtain ⟨rfl, rfl⟩ := hx
       have hlv := opd_live h hz
       exact hlv
     · cases hx
   case aidx l sz z i =>
     simp only [SOp.ev] at hx
     split at hx
     · split at hx <;> simp at hx
     · rename_i k' off' kk n hz _
       split at hx
       · simp only [Option.some.injEq, EV.lp.injEq] at hx
         obtain ⟨rfl, _⟩ := hx
         have hlv := opd_live h hz
         exact hlv
       · cases hx
     · split at hx <;> simp at hx
     · cases hx
   all_goals
     simp only [SOp.ev] at hx
     repeat' split at hx
     all_goals first
       | (cases hx; done)
       | (simp at hx; done)
       | (obtain ⟨_, _, hx⟩ := Option.map_eq_some_iff.1 hx; simp at hx; done)
theorem step_live {S : SpecT} (hS : SMono S) {o : SOp} {e : Env} {H : Heap} {K : EV → Env → Heap → Prop} (h : Live e) (hs : o.step S e H K) : o.step S e H fun x e' H' => (Live e' ∧ x.live e') ∧ K x e' H' := by
 cases o
 case alloc loc cs =>
   simp only [SOp.step] at hs ⊢
   cases loc with
   | some k => exact ⟨hs.1, ⟨live_setb h, by simp [EV.live, Env.setb, Env.box, upd]⟩, hs.2⟩
   | none => exact fun b hb => ⟨⟨h, trivial⟩, hs b hb⟩
 case box loc n x =>
   simp only [SOp.step] at hs ⊢
   split at hs
   · refine ⟨hs.1, hs.2.1, ?_⟩
     cases loc with
     | some k => exact ⟨hs.2.2.1, ⟨live_setb h, by simp [EV.live, Env.setb, Env.box, upd]⟩, hs.2.2.2⟩
     | none => exact fun b hb => ⟨⟨h, trivial⟩, hs.2.2 b hb⟩
   · exact hs.elim
 case bslice sz ps =>
   simp only [SOp.step] at hs ⊢
   split at hs
   · exact ⟨hs.1, hs.2.1, ⟨h, trivial⟩, hs.2.2⟩
   · exact hs.elim
 case store n a x =>
   simp only [SOp.step] at hs ⊢
   split at hs
   · refine ⟨hs.1, hs.2.1, ?_⟩
     have h3 := hs.2.2
     split at h3
     · split at h3
       · exact ⟨h3.1, ⟨h, trivial⟩, h3.2⟩
       · exact h3.elim
     · split at h3
       · exact ⟨h3.1, ⟨live_setb h, trivial⟩, h3.2⟩
       · exact h3.elim
     · exact h3.elim
   · exact hs.elim
 case hop f xs =>
   simp only [SOp.step] at hs ⊢
   split at hs
   · exact hopK_mono (fun h' H' hr => ⟨⟨h, trivial⟩, hr⟩) hs
   · exact hs.elim
 case app sz bytes x y =>
   simp only [SOp.step] at hs ⊢
   rcases hs with hs | hs
   rotate_left
   · right
     split at hs
     · exact appK_mono (fun h' H' hr => ⟨⟨h, trivial⟩, hr⟩) hs
     · exact hs.elim
   left
   split at hs
   · exact ⟨hs.1, fun hy => ⟨⟨h, trivial⟩, hs.2.1 hy⟩, fun hy => ⟨(hs.2.2 hy).1, fun b c hb => ⟨⟨h, trivial⟩, (hs.2.2 hy).2 b c hb⟩⟩⟩
   · exact ⟨hs.1, hs.2.1, fun hy => ⟨⟨h, trivial⟩, hs.2.2.1 hy⟩, fun hy => ⟨(hs.2.2.2 hy).1, fun b c hb => ⟨⟨h, trivial⟩, (hs.2.2.2 hy).2 b c hb⟩⟩⟩
   · exact ⟨hs.1, hs.2.1, hs.2.2.1, hs.2.2.2.1, fun b c hb => ⟨⟨h, trivial⟩, hs.2.2.2.2 b c hb⟩⟩
   · exact hs.elim
 case call g args =>
   simp only [SOp.step] at hs ⊢
   split at hs
   · exact hS _ _ _ _ _ (fun h' H' hk => ⟨⟨h, trivial⟩, hk⟩) hs
   · exact hs.elim
 case callv x args =>
   simp only [SOp.step] at hs ⊢
   split at hs
   · exact hS _ _ _ _ _ (fun h' H' hk => ⟨⟨h, trivial⟩, hk⟩) hs
   · exact hS _ _ _ _ _ (fun h' H' hk => ⟨⟨h, trivial⟩, hk⟩) hs
   · exact hs.elim
 case nd f xs =>
   simp only [SOp.step] at hs ⊢
   split at hs
   · exact ndK_mono (fun h' hr => ⟨⟨h, trivial⟩, hr⟩) hs
   · exact hs.elim
 all_goals
   simp only [SOp.step] at hs ⊢
   split at hs
   · rename_i x hx; exact ⟨⟨h, ev_live h hx⟩, hs⟩
   · exact hs.elim
theorem rsem1_live {S : SpecT} (hS : SMono S) {Y : SOper} {e : Env} {H : Heap} {K : Env → Heap → Prop} (h : Live e) (hs : rsem1 S Y e H K) : rsem1 S Y e H fun e' H' => Live e' ∧ K e' H' := by
 unfold rsem1 at hs ⊢
 split at hs
 · exact step_mono hS (fun x e' H' hk => ⟨live_put hk.1.1 hk.1.2, hk.2⟩) _ (step_live hS h hs)
 · split at hs
   · rename_i b hb
     exact ⟨fun hbw => step_mono hS (fun x e' H' hk => ⟨live_put hk.1.1 hk.1.2, hk.2⟩) _ (step_live hS (live_put h trivial) (hs.1 hbw)), fun hbn => ⟨live_put (x := .h .undef) (live_put h trivial) trivial, hs.2 hbn⟩⟩
   · exact ⟨live_put h trivial, hs⟩
   · exact hs.elim
theorem rc_back {X Z : SOper} {e1 : Env} {H1 : Heap} {p} (hl : Live e1) (hp : X.fe e1 H1 = some p) (hZ : Z.op.isLoad = true) (h1 : notIn X.dst Z = true) (h2 : Z.dst ≠ X.dst) (hr : rc1 Z ((addb p.1 e1).put X.dst p.2) H1) : rc1 Z e1 H1 := by
 have hev : Z.op.ev ((addb p.1 e1).put X.dst p.2) H1 = Z.op.ev e1 H1 := by
   cases hop : Z.op <;> simp only [hop, SOp.isLoad, Bool.false_eq_true] at hZ
   case lkc s ok agg zero y k' =>
     have h8 : ∀ z ∈ Z.op.opds, ((addb p.1 e1).put X.dst p.2).opd z = e1.opd z := fun z hz => (opd_put (fun t ht => notIn_opds h1 t ht z hz)).trans opd_addb
     have h9 := hv_congr (h8 y (by rw [hop]; simp [SOp.opds]))
     have h10 := hv_congr (h8 k' (by rw [hop]; simp [SOp.opds]))
     simp only [SOp.ev, h9, h10]
   rename_i agg n z
   have hz : ((addb p.1 e1).put X.dst p.2).opd z = e1.opd z := (opd_put (fun t ht => notIn_opds h1 t ht z (by rw [hop]; simp [SOp.opds]))).trans opd_addb
   have hbox : ∀ k o, e1.opd z = some (.lp k o) → ((addb p.1 e1).put X.dst p.2).box k = e1.box k := by
         intro k o hz1
         have hk := opd_live hl hz1
         unfold Env.box
         rw [put_bx]
         cases hp1 : p.1 with
         | none => rfl
         | some q =>
           obtain ⟨k', cs⟩ := q
           have hnew : e1.box k' = none := by
             have key : ∀ q, X.op.fe e1 H1 = some q → q.1 = some (k', cs) → e1.box k' = none := by
               intro q hq hq1
               cases hop2 : X.op <;> rw [hop2] at hq
               case alloc loc cs' =>
                 cases loc with
                 | none => cases hq
                 | some kk =>
                   simp only [SOp.fe] at hq
                   split at hq
                   · simp only [Option.some.injEq] at hq; subst hq
                     simp only [Option.some.injEq, Prod.mk.injEq] at hq1
                     rw [← hq1.1]; rename_i hn; simpa using hn
                   · cases hq
               case box loc n x =>
                 cases loc with
                 | none => cases hq
                 | some kk =>
                   simp only [SOp.fe] at hq
                   split at hq
                   · split at hq
                     · simp only [Option.some.injEq] at hq; subst hq
                       simp only [Option.some.injEq, Prod.mk.injEq] at hq1
                       rename_i hn
                       rw [← hq1.1]; simpa using hn.2.2
                     · cases hq
                   · cases hq
               case bslice sz ps =>
                 simp only [SOp.fe] at hq
                 split at hq
                 · split at hq
                   · simp only [Option.some.injEq] at hq; subst hq; cases hq1
                   · cases hq
                 · cases hq
               case store => cases hq
               case app => cases hq
               case call => cases hq
               case callv => cases hq
               case nd => cases hq
               case hop => cases hq
               case dead => simp [SOp.fe, SOp.ev] at hq
               all_goals
                 obtain ⟨y, _, rfl⟩ := Option.map_eq_some_iff.1 hq
                 cases hq1
             unfold SOper.fe at hp
             split at hp
             · exact key p hp hp1
             · split at hp
               · split at hp
                 · exact key p hp hp1
                 · simp only [Option.some.injEq] at hp; subst hp; cases hp1
               · simp only [Option.some.injEq] at hp; subst hp; cases hp1
               · cases hp
           have hne : k' ≠ k := by
             rintro rfl
             simp only [EV.live] at hk
             rw [hnew] at hk; cases hk
           simp only [addb, Env.setb, upd, if_neg hne]
   simp only [SOp.ev, hz]
   split
   · rfl
   · rfl
   · rename_i k o hz1; rw [hbox k o hz1]
   · rfl
 unfold rc1 at hr ⊢
 cases hd : Z.dst with
 | none => rw [hd] at hr; exact hr
 | some d =>
   rw [hd] at hr
   have hget : ((addb p.1 e1).put X.dst p.2).get d = e1.get d := get_put_ne (fun he => h2 (by rw [hd, he]))
   cases hg : Z.guard with
   | none =>
     rw [hg] at hr
     simp only at hr ⊢
     rw [hev, hget] at hr; exact hr
   | some q =>
     obtain ⟨g, w⟩ := q
     rw [hg] at hr
     simp only at hr ⊢
     intro hgw
     have hgx : X.dst ≠ some g := fun he => notIn_guard h1 g he g w hg rfl
     have := hr (by rw [get_put_ne hgx]; exact hgw)
     rw [hev, hget] at this; exact this
def rcOk (L : List DOper) (z x : Nat) : Bool := (L[z]!).o.op.isLoad && notIn (L[x]!).o.dst (L[z]!).o && decide ((L[z]!).o.dst ≠ (L[x]!).o.dst)
theorem rcok_iff {L : List DOper} : ∀ {zs : List Nat} {e H}, rcok L zs e H ↔ ∀ z ∈ zs, rc1 (L[z]!).o e H
 | [], e, H => by simp [rcok]
 | z :: zs, e, H => by simp [rcok, rcok_iff (zs := zs)]
theorem move {S : SpecT} (hF : SFrame S) (hS : SMono S) {L : List DOper} {y : Nat} {K : Env → Heap → Prop} : ∀ (pre post : List Nat) {e : Env} {H : Heap}, Live e → (∀ x ∈ pre, swapB L x y = true ∧ (L[x]!).rc = []) →
   pre.Pairwise (fun x x' => (L[y]!).rc.contains x = true → rcOk L x x' = true) →
   dsem S L (pre ++ y :: post) e H K → rsem1 S (L[y]!).o e H fun e1 H1 => (∀ z ∈ (L[y]!).rc, (∀ x ∈ pre, rcOk L z x = true) → rc1 (L[z]!).o e1 H1) ∧ dsem S L (pre ++ post) e1 H1 K
 | [], post, e, H, hl, _, _, h => by
   simp only [List.nil_append, dsem] at h
   exact rsem1_mono hS (fun e1 H1 hk => ⟨fun z hz _ => rcok_iff.1 hk.1 z hz, hk.2⟩) _ _ _ h
 | x :: pre, post, e, H, hl, hsw, hpw, h => by
   simp only [List.cons_append, dsem] at h
   obtain ⟨hx, hxrc⟩ := hsw x (by simp)
   rw [List.pairwise_cons] at hpw
   rw [swapB, Bool.or_eq_true] at hx
   rcases hx with hx | hx
   case inr =>
     have h1 : rsem1 S (L[x]!).o e H fun e1 H1 => rsem1 S (L[y]!).o e1 H1 fun e2 H2 => (∀ z ∈ (L[y]!).rc, (∀ x ∈ pre, rcOk L z x = true) → rc1 (L[z]!).o e2 H2) ∧ dsem S L (pre ++ post) e2 H2 K :=
       rsem1_mono hS (fun e1 H1 hk => move hF hS pre post hk.1 (fun z hz => hsw z (by simp [hz])) hpw.2 hk.2.2) _ _ _ (rsem1_live hS hl h)
     simp only [swapA, Bool.and_eq_true, decide_eq_true_eq, Option.isNone_iff_eq_none, List.isEmpty_iff] at hx
     obtain ⟨⟨⟨⟨⟨b1, b2⟩, b3⟩, b4⟩, b5⟩, b6⟩ := hx
     split at b1
     · rename_i g args cs dy hX hY hYd
       have h2 := swap_a hF hS hX b2 hY b3 hYd b4 b5 h1
       refine rsem1_mono hS ?_ _ _ _ h2
       intro e1 H1 hk
       refine ⟨fun z hz _ => by rw [b6] at hz; simp at hz, ?_⟩
       simp only [List.cons_append, dsem]
       exact rsem1_mono hS (fun e2 H2 hk2 => ⟨by rw [hxrc]; trivial, hk2.2⟩) _ _ _ hk
     · cases b1
   simp only [swapOk, Bool.and_eq_true, decide_eq_true_eq, Bool.or_eq_true, Bool.not_eq_true'] at hx
   obtain ⟨⟨⟨⟨⟨⟨⟨a1, a2⟩, a3⟩, a4⟩, a5⟩, a6⟩, a7⟩, a8⟩ := hx
   have h1 : rsem1 S (L[x]!).o e H fun e1 H1 => rsem1 S (L[y]!).o e1 H1 fun e2 H2 => (∀ z ∈ (L[y]!).rc, (∀ x ∈ pre, rcOk L z x = true) → rc1 (L[z]!).o e2 H2) ∧ dsem S L (pre ++ post) e2 H2 K :=
     rsem1_mono hS (fun e1 H1 hk => move hF hS pre post hk.1 (fun z hz => hsw z (by simp [hz])) hpw.2 hk.2.2) _ _ _ (rsem1_live hS hl h)
   have hpriv : (L[x]!).o.op.priv = true → (L[y]!).o.op.isLoad = false ∧ (L[y]!).o.op.priv = false ∧ noStore (L[y]!).o.op = true := by
     intro hp
     rcases a7 with a7 | a7
     · rw [hp] at a7; cases a7
     · exact ⟨a7.1.1, a7.1.2, a7.2⟩
   have h2 := swap hS a1 a2 a3 a4 a5 a6 hpriv (fun hld hw e2 H2 hk => by
     rcases a8 with a8 | a8
     · rw [hld, hw] at a8; simp at a8
     · exact hk.1 x (by simpa using a8) (fun x' hx' => hpw.1 x' hx' a8)) h1
   refine rsem1_mono hS ?_ _ _ _ (rsem1_live hS hl h2)
   intro e1 H1 ⟨hl1, hk⟩
   obtain ⟨p, hp, hk1, hk2⟩ := (rsem1_early a1).1 hk
   refine ⟨fun z hz hzz => ?_, ?_⟩
   · have hzx := hzz x (by simp)
     simp only [rcOk, Bool.and_eq_true, decide_eq_true_eq] at hzx
     exact rc_back hl1 hp hzx.1.1 hzx.1.2 hzx.2 (hk1 z hz (fun x' hx' => hzz x' (by simp [hx'])))
   · simp only [List.cons_append, dsem]
     refine (rsem1_early a1).2 ⟨p, hp, ?_, hk2⟩
     rw [hxrc]; trivial
inductive Comes' (L : List DOper) : List Nat → List Nat → Prop
 | nil : Comes' L [] []
 | cons {y : Nat} {l pre post : List Nat} (h1 : ∀ x ∈ pre, swapB L x y = true ∧ (L[x]!).rc = []) (h2 : pre.Pairwise (fun x x' => (L[y]!).rc.contains x = true → rcOk L x x' = true)) (h : Comes' L l (pre ++ post)) : Comes' L (y :: l) (pre ++ y :: post)
theorem reorder {S : SpecT} (hF : SFrame S) (hS : SMono S) {L : List DOper} {K : Env → Heap → Prop} : ∀ {l r : List Nat}, Comes' L l r → ∀ {e : Env} {H : Heap}, Live e → dsem S L r e H K → rsem S (l.map fun i => (L[i]!).o) e H K := by
 intro l r h
 induction h with
 | nil => intro e H _ h; exact h
 | cons h1 h2 h3 ih =>
   intro e H hl h
   simp only [List.map_cons, rsem]
   exact rsem1_mono hS (fun e1 H1 hk => ih hk.1 hk.2.2) _ _ _ (rsem1_live hS hl (move hF hS _ _ hl h1 h2 h))
def predsOf (ops : Array Oper) (q : Nat) : List Nat := ((ops[q]?).map fun o => (o.after.toList.filter (Region.binds .any)).map (·.on)).getD []
def reach (ops : Array Oper) : Nat → Nat → Nat → Bool
 | 0, _, _ => false
 | f + 1, p, q => (predsOf ops q).contains p || (predsOf ops q).any fun r => reach ops f p r
def drawOk (ops : Array Oper) (perm : List Nat) (L : List DOper) : Bool :=
 let n := ops.size
 decide (perm.length = n) && decide (L.length = n) && perm.all (fun i => decide (i < n)) && (List.range n).all (fun i => perm.contains i) &&
 (List.range n).all fun y => (predsOf ops (perm[y]!)).all (fun p => (perm.take y).contains p) &&
   (List.range y).all fun x => decide (perm[x]! ≠ perm[y]!) && (reach ops 64 (perm[x]!) (perm[y]!) || swapB L x y && (L[x]!).rc.isEmpty &&
     (!(L[y]!).rc.contains x || (List.range y).all fun x' => !decide (x < x') || reach ops 64 (perm[x']!) (perm[y]!) || rcOk L x x'))
theorem reach_listed {ops : Array Oper} {D : Nat → Prop} (hD : ∀ q, D q → ∀ p ∈ predsOf ops q, D p) : ∀ (f : Nat) {p q : Nat}, (∀ r ∈ predsOf ops q, D r) → reach ops f p q = true → D p
 | 0, p, q, _, h => by simp [reach] at h
 | f + 1, p, q, hq, h => by
   simp only [reach, Bool.or_eq_true, List.any_eq_true] at h
   rcases h with h | ⟨r, hr, h⟩
   · exact hq p (by simpa using h)
   · exact reach_listed hD f (hD r (hq r hr)) h
theorem ready_iff {ops : Array Oper} {listed : Array Bool} {i : Nat} (hi : i < ops.size) : ((ops[i]?).map (·.after.all fun e => !Region.binds .any e || listed.getD e.on false)).getD false = true ↔ ∀ p ∈ predsOf ops i, listed.getD p false = true := by
 simp only [predsOf, Array.getElem?_eq_getElem hi, Option.map_some, Option.getD_some, Array.all_eq_true', Bool.or_eq_true, Bool.not_eq_true', List.mem_map, List.mem_filter]
 constructor
 · rintro h p ⟨e, ⟨he, hb⟩, rfl⟩
   rcases h e (by simpa using he) with h | h
   · rw [hb] at h; cases h
   · exact h
 · intro h e he
   cases hb : Region.binds .any e with
   | false => exact .inl rfl
   | true => exact .inr (h _ ⟨e, ⟨by simpa using he, hb⟩, rfl⟩)
structure GoInv (ops : Array Oper) (perm : List Nat) (listed : Array Bool) (R : List Nat) : Prop where
 size : listed.size = ops.size
 sub : ∀ y ∈ R, y < ops.size
 inc : R.Pairwise (· < ·)
 mem : ∀ i, i < ops.size → (listed.getD i false = true ↔ ∀ y ∈ R, perm[y]! ≠ i)
 closed : ∀ q, q < ops.size → listed.getD q false = true → ∀ p ∈ predsOf ops q, listed.getD p false = true
theorem go_comes {ops : Array Oper} {perm : List Nat} {L : List DOper} (hok : drawOk ops perm L = true) : ∀ (fuel t : Nat) (listed : Array Bool) (acc R : List Nat), R.length ≤ fuel → GoInv ops perm listed R →
   ∃ ys, Region.linearise.go .any ops fuel t listed acc = acc.reverse ++ ys.map (fun y => perm[y]!) ∧ Comes' L ys R ∧ ∀ y ∈ ys, y < ops.size
 | 0, t, listed, acc, R, hf, inv => by
   have : R = [] := List.eq_nil_of_length_eq_zero (by omega)
   subst this
   exact ⟨[], by simp [Region.linearise.go], .nil, by simp⟩
 | fuel + 1, t, listed, acc, R, hf, inv => by
   have hok' := hok
   simp only [drawOk, Bool.and_eq_true, decide_eq_true_eq] at hok
   obtain ⟨⟨⟨⟨p1, p2⟩, p3⟩, p4⟩, p5⟩ := hok
   rw [List.all_eq_true] at p3 p5
   simp only [Region.linearise.go]
   have hdef : ∀ i, i < ops.size → listed.getD i true = listed.getD i false := fun i hi => by
     have : i < listed.size := by rw [inv.size]; exact hi
     simp [Array.getD, this]
   have hperm : ∀ y, y < ops.size → perm[y]! < ops.size := fun y hy => by
     have hy' : y < perm.length := by omega
     have := p3 perm[y] (List.getElem_mem hy')
     simp only [decide_eq_true_eq] at this
     simpa [hy'] using this
   have hlt1 : ∀ y y', y < y' → y' < ops.size → perm[y]! ≠ perm[y']! := fun y y' hyy hy' h => by
     have h5 := p5 y' (List.mem_range.2 hy')
     simp only [Bool.and_eq_true, List.all_eq_true] at h5
     have h6 := (h5.2 y (List.mem_range.2 hyy)).1
     simp only [decide_eq_true_eq] at h6
     exact h6 h
   have hinj : ∀ y y', y < ops.size → y' < ops.size → perm[y]! = perm[y']! → y = y' := fun y y' hy hy' h => by
     rcases Nat.lt_trichotomy y y' with h1 | h1 | h1
     · exact absurd h (hlt1 y y' h1 hy')
     · exact h1
     · exact absurd h.symm (hlt1 y' y h1 hy)
   cases R with
   | nil =>
     have hempty : ((List.range ops.size).filter fun i => !listed.getD i true && ((ops[i]?).map (·.after.all fun e => !Region.binds .any e || listed.getD e.on false)).getD false) = [] := by
       rw [List.filter_eq_nil_iff]
       intro i hi
       have hi' : i < ops.size := List.mem_range.1 hi
       have := (inv.mem i hi').2 (by simp)
       rw [hdef i hi', this]; simp
     rw [hempty]
     exact ⟨[], by simp, .nil, by simp⟩
   | cons y0 R' =>
     generalize hrs : ((List.range ops.size).filter fun i => !listed.getD i true && ((ops[i]?).map (·.after.all fun e => !Region.binds .any e || listed.getD e.on false)).getD false) = rs
     have hmem : ∀ i, i ∈ rs ↔ i < ops.size ∧ listed.getD i false = false ∧ ∀ p ∈ predsOf ops i, listed.getD p false = true := by
       intro i
       rw [← hrs, List.mem_filter, List.mem_range]
       constructor
       · rintro ⟨h1, h2⟩
         simp only [Bool.and_eq_true, Bool.not_eq_true'] at h2
         exact ⟨h1, by rw [← hdef i h1]; exact h2.1, (ready_iff h1).1 h2.2⟩
       · rintro ⟨h1, h2, h3⟩
         refine ⟨h1, ?_⟩
         simp only [Bool.and_eq_true, Bool.not_eq_true']
         exact ⟨by rw [hdef i h1]; exact h2, (ready_iff h1).2 h3⟩
     have hy0 := inv.sub y0 (by simp)
     have hfirst : perm[y0]! ∈ rs := by
       refine (hmem _).2 ⟨hperm y0 hy0, ?_, fun p hp => ?_⟩
       · cases hl : listed.getD (perm[y0]!) false with
         | false => rfl
         | true => exact absurd rfl ((inv.mem _ (hperm y0 hy0)).1 hl y0 (by simp))
       · have h5 := p5 y0 (List.mem_range.2 hy0)
         simp only [Bool.and_eq_true, List.all_eq_true] at h5
         have h6 := h5.1 p hp
         simp only [List.contains_eq_mem, decide_eq_true_eq] at h6
         obtain ⟨k, hk, hkp⟩ := List.getElem_of_mem h6
         rw [List.length_take] at hk
         rw [List.getElem_take] at hkp
         have hk1 : k < perm.length := by omega
         have hpk : perm[k]! = p := by simp [hk1, hkp]
         have hpn : p < ops.size := by rw [← hpk]; exact hperm k (by omega)
         refine (inv.mem p hpn).2 (fun y hy he => ?_)
         have hyk : y = k := hinj y k (inv.sub y hy) (by omega) (by rw [he, hpk])
         subst hyk
         have : y0 ≤ y := by
           rcases List.mem_cons.1 hy with h | h
           · omega
           · have := (List.pairwise_cons.1 inv.inc).1 y h; omega
         omega
     have hpos : 0 < rs.length := List.length_pos_of_mem hfirst
     have hlt : t % rs.length < rs.length := Nat.mod_lt _ hpos
     rw [List.getElem?_eq_getElem hlt]
     simp only
     have hi := (hmem rs[t % rs.length]).1 (List.getElem_mem hlt)
     generalize rs[t % rs.length] = i at hi
     obtain ⟨hi1, hi2, hi3⟩ := hi
     have hyex : ∃ y ∈ y0 :: R', perm[y]! = i := by
       apply Classical.byContradiction
       intro hn
       have := (inv.mem i hi1).2 (fun y hy he => hn ⟨y, hy, he⟩)
       rw [this] at hi2; cases hi2
     obtain ⟨y, hyR, rfl⟩ := hyex
     obtain ⟨pre, post, hR⟩ := List.append_of_mem hyR
     have hyn := inv.sub y hyR
     have hinc := inv.inc
     rw [hR] at hinc
     have hpre : ∀ x ∈ pre, x < y := fun x hx => (List.pairwise_append.1 hinc).2.2 x hx y (by simp)
     have hclosed : ∀ q, (listed.getD q false = true) → ∀ p ∈ predsOf ops q, listed.getD p false = true := fun q hq => by
       have : q < ops.size := by
         rcases Nat.lt_or_ge q listed.size with h | h
         · rw [← inv.size]; exact h
         · simp [Array.getD, Nat.not_lt.2 h] at hq
       exact inv.closed q this hq
     have hnr : ∀ x ∈ pre, reach ops 64 (perm[x]!) (perm[y]!) = false := fun x hx => by
       cases hr : reach ops 64 (perm[x]!) (perm[y]!) with
       | false => rfl
       | true =>
         have h1 := reach_listed (D := fun q => listed.getD q false = true) hclosed 64 hi3 hr
         have hxR : x ∈ y0 :: R' := by rw [hR]; simp [hx]
         exact absurd rfl ((inv.mem _ (hperm x (inv.sub x hxR))).1 h1 x hxR)
     have h5 := p5 y (List.mem_range.2 hyn)
     simp only [Bool.and_eq_true, List.all_eq_true, Bool.or_eq_true] at h5
     have h6 : ∀ x ∈ pre, (swapB L x y = true ∧ (L[x]!).rc.isEmpty = true) ∧ ((!(L[y]!).rc.contains x) = true ∨ ∀ x' ∈ List.range y, ((!decide (x < x')) = true ∨ reach ops 64 (perm[x']!) (perm[y]!) = true) ∨ rcOk L x x' = true) := fun x hx =>
       (h5.2 x (List.mem_range.2 (hpre x hx))).2.resolve_left (by rw [hnr x hx]; simp)
     have inv' : GoInv ops perm (listed.setIfInBounds (perm[y]!) true) (pre ++ post) := by
       have hsub : ∀ x ∈ pre ++ post, x ∈ y0 :: R' := fun x hx => by
         rw [hR]
         rcases List.mem_append.1 hx with h | h
         · simp [h]
         · simp [h]
       have hget0 : ∀ py q, py < ops.size → (listed.setIfInBounds py true).getD q false = if py = q then true else listed.getD q false := fun py q hpy => by
         simp only [Array.getD_eq_getD_getElem?, Array.getElem?_setIfInBounds]
         by_cases hq : py = q
         · subst hq; simp [inv.size, hpy]
         · rw [if_neg hq, if_neg hq]
       have hget := fun q => hget0 (perm[y]!) q hi1
       refine ⟨by simp [inv.size], fun x hx => inv.sub x (hsub x hx), ?_, fun q hq => ?_, fun q hq hl p hp => ?_⟩
       · rw [List.pairwise_append] at hinc ⊢
         exact ⟨hinc.1, (List.pairwise_cons.1 hinc.2.1).2, fun a ha b hb => hinc.2.2 a ha b (by simp [hb])⟩
       · rw [hget]
         have hny : ∀ x ∈ pre ++ post, x ≠ y := by
           intro x hx he
           subst he
           rcases List.mem_append.1 hx with h | h
           · exact Nat.lt_irrefl _ (hpre x h)
           · exact Nat.lt_irrefl _ ((List.pairwise_cons.1 (List.pairwise_append.1 hinc).2.1).1 x h)
         by_cases hq' : perm[y]! = q
         · subst hq'
           simp only [if_true, true_iff]
           intro x hx he
           exact hny x hx (hinj x y (inv.sub x (hsub x hx)) hyn he)
         · rw [if_neg hq', inv.mem q hq, hR]
           constructor
           · intro h x hx; exact h x (by rcases List.mem_append.1 hx with h | h <;> simp [h])
           · intro h x hx
             rcases List.mem_append.1 hx with h' | h'
             · exact h x (by simp [h'])
             · rcases List.mem_cons.1 h' with h'' | h''
               · subst h''; exact hq'
               · exact h x (by simp [h''])
       · rw [hget] at hl ⊢
         split
         · rfl
         · by_cases hq' : perm[y]! = q
           · subst hq'; exact hi3 p hp
           · rw [if_neg hq'] at hl; exact inv.closed q hq hl p hp
     have hlen : (pre ++ post).length ≤ fuel := by
       have : (y0 :: R').length = (pre ++ y :: post).length := by rw [hR]
       simp only [List.length_cons, List.length_append] at this hf ⊢
       omega
     obtain ⟨ys, g1, g2, g3⟩ := go_comes hok' fuel (t / rs.length) _ (perm[y]! :: acc) (pre ++ post) hlen inv'
     refine ⟨y :: ys, by rw [g1]; simp, ?_, fun z hz => ?_⟩
     · rw [hR]
       refine .cons (fun x hx => ⟨(h6 x hx).1.1, by simpa using (h6 x hx).1.2⟩) ?_ g2
       have hpp := (List.pairwise_append.1 hinc).1
       refine List.Pairwise.imp_of_mem ?_ hpp
       intro x x' hx hx' hlt hc
       rcases (h6 x hx).2 with h | h
       · rw [hc] at h; cases h
       · rcases h x' (List.mem_range.2 (hpre x' hx')) with (h' | h') | h'
         · simp [hlt] at h'
         · rw [hnr x' hx'] at h'; cases h'
         · exact h'
     · rcases List.mem_cons.1 hz with h | h
       · subst h; exact hyn
       · exact g3 z h
theorem schedule_comes {P : Program} (hm : P.follows .mixedOrders = true) {ops : Array Oper} {perm : List Nat} {L : List DOper} (hok : drawOk ops perm L = true) (t : Nat) :
   ∃ ys, Region.schedule (P.follows .mixedOrders) ops t = ys.map (fun y => perm[y]!) ∧ Comes' L ys (List.range L.length) ∧ ∀ y ∈ ys, y < ops.size := by
 have hok' := hok
 simp only [drawOk, Bool.and_eq_true, decide_eq_true_eq] at hok
 obtain ⟨⟨⟨⟨p1, p2⟩, p3⟩, p4⟩, p5⟩ := hok
 rw [List.all_eq_true] at p3
 obtain ⟨ys, g1, g2, g3⟩ := go_comes hok' ops.size t (Array.replicate ops.size false) [] (List.range ops.size) (by simp) ⟨by simp, fun y hy => List.mem_range.1 hy, List.pairwise_lt_range, fun i hi => by
   constructor
   · intro h; simp [Array.getD] at h
   · intro h
     exfalso
     have hsurj : i ∈ perm := by
       rw [List.all_eq_true] at p4
       simpa using p4 i (List.mem_range.2 hi)
     obtain ⟨k, hk, hki⟩ := List.getElem_of_mem hsurj
     exact h k (List.mem_range.2 (by omega)) (by simp [hk, hki]), fun q hq h => by simp [Array.getD] at h⟩
 refine ⟨ys, ?_, by rw [p2]; exact g2, g3⟩
 rw [hm]
 simp only [Region.schedule, Bool.true_or, if_true, Region.linearise]
 simpa using g1
theorem wp_loop_n {P : Program} {Q : Exit → Act → World → Prop} {c : Code} (J : Nat → Act → World → Prop) {n : Nat} {a : Act} {w : World} (h₀ : J n a w)
   (round : ∀ n a w, J n a w → c.wp P (Exit.then (fun a' w' => ∃ m, m < n ∧ J m a' w') Q) a w) : (Code.loop c).wp P Q a w := by
 intro b k cs
 have key : ∀ n a w, J n a w → ∃ e a' w', Q e a' w' ∧ Arrives P (lone (b.at a (.code c :: .inLoop c :: k)) cs w) b k cs e a' w' := by
   intro n
   induction n using Nat.strongRecOn with
   | _ n ih =>
     intro a w hJ
     obtain ⟨e, a₁, w₁, hq, harr⟩ := round n a w hJ b (.inLoop c :: k) cs
     cases e with
     | normal =>
       obtain ⟨m, hlt, hJ₁⟩ := hq
       obtain ⟨e₂, a₂, w₂, hq₂, harr₂⟩ := ih m hlt a₁ w₁ hJ₁
       exact ⟨e₂, a₂, w₂, hq₂, .of_steps (Steps.trans harr (.one step_inLoop)) harr₂⟩
     | exit id => exact ⟨_, a₁, w₁, hq, .pass (x := .inLoop c) rfl (fun _ _ => .inl (by simp)) harr⟩
     | goto l => exact ⟨_, a₁, w₁, hq, .pass (x := .inLoop c) rfl (fun _ _ => .inl (by simp)) harr⟩
     | ret => exact ⟨_, a₁, w₁, hq, .pass (x := .inLoop c) rfl (fun _ _ => .inl (by simp)) harr⟩
     | panic ch => exact ⟨_, a₁, w₁, hq, .pass (x := .inLoop c) rfl (fun _ _ => .inl (by simp)) harr⟩
     | outgrown => exact ⟨_, a₁, w₁, hq, .pass (x := .inLoop c) rfl (fun _ _ => .inl (by simp)) harr⟩
 obtain ⟨e, a', w', hq, harr⟩ := key n a w h₀
 exact ⟨e, a', w', hq, .of_steps (.one step_loop) harr⟩
def chkOs (P : Program) (ν : Nat → Option Nat) (N : Nat) (ops : Array Oper) : List Oper → List SOper → Bool
 | [], [] => true
 | o :: os, s :: ss => chkO P ν N ops o s && chkOs P ν N ops os ss
 | _, _ => false
theorem chkOs_get {P : Program} {ν : Nat → Option Nat} {N : Nat} {ops : Array Oper} : ∀ {os : List Oper} {ss : List SOper}, chkOs P ν N ops os ss = true → os.length = ss.length ∧ ∀ (k : Nat) o, os[k]? = some o → ∃ s, ss[k]? = some s ∧ chkO P ν N ops o s = true
 | [], [], _ => by simp
 | [], _ :: _, h => by simp [chkOs] at h
 | _ :: _, [], h => by simp [chkOs] at h
 | o :: os, s :: ss, h => by
   simp only [chkOs, Bool.and_eq_true] at h
   obtain ⟨h1, h2⟩ := chkOs_get h.2
   refine ⟨by simp [h1], fun k o' hk => ?_⟩
   cases k with
   | zero => simp at hk; subst hk; exact ⟨s, rfl, h.1⟩
   | succ k => simpa using h2 k o' (by simpa using hk)
def chkD (P : Program) (ν : Nat → Option Nat) (N : Nat) (ops : Array Oper) : List Nat → List DOper → Bool
 | [], [] => true
 | p :: ps, d :: ds => (match ops[p]? with
   | some o => chkO P ν N ops o d.o
   | none => false) && chkD P ν N ops ps ds
 | _, _ => false
theorem chkD_get {P : Program} {ν : Nat → Option Nat} {N : Nat} {ops : Array Oper} : ∀ {ps : List Nat} {ds : List DOper}, chkD P ν N ops ps ds = true → ∀ (k : Nat), k < ps.length → ∃ o, ops[ps[k]!]? = some o ∧ k < ds.length ∧ chkO P ν N ops o (ds[k]!).o = true
 | [], _, _, k, hk => by simp at hk
 | _ :: _, [], h, _, _ => by simp [chkD] at h
 | p :: ps, d :: ds, h, k, hk => by
   simp only [chkD, Bool.and_eq_true] at h
   cases k with
   | zero =>
     have h1 := h.1
     split at h1
     · rename_i o ho; exact ⟨o, by simpa using ho, by simp, by simpa using h1⟩
     · cases h1
   | succ k =>
     obtain ⟨o, a1, a2, a3⟩ := chkD_get h.2 k (by simpa using hk)
     exact ⟨o, by simpa using a1, by simpa using a2, by simpa using a3⟩
def chkC (P : Program) (ν : Nat → Option Nat) (N : Nat) : Code → SC → Bool
 | .skip, .skip => true
 | .region _ ops draw, .reg ss => !draw && chkOs P ν N ops ops.toList ss
 | .region _ ops draw, .dreg perm L => draw && drawOk ops perm L && chkD P ν N ops perm L
 | .seq a b, .seq a' b' => chkC P ν N a a' && chkC P ν N b b'
 | .cond c a b, .cond c' a' b' => okOpd ν c c' && chkC P ν N a a' && chkC P ν N b b'
 | .block i b, .block j b' => decide (i = j) && chkC P ν N b b'
 | .loop b, .loop b' => chkC P ν N b b'
 | .exit i, .exit j => decide (i = j)
 | .ret, .ret => true
 | _, _ => false
def chkDefer (ν : Nat → Option Nat) (o : Oper) (x : Opd) (ys : List Opd) : Bool :=
 (match o.op with
   | .defer c => (match c.callee with
     | .value xo => okOpd ν xo x && okOpds ν c.args.toList ys
     | _ => false)
   | _ => false) && o.dst.isNone && o.guard.isNone
def chkDf (P : Program) (ν : Nat → Option Nat) (N : Nat) : Code → SC → Bool
 | .seq (.region _ ops draw) b, .dfr ss x ys gd rest => !draw && chkOs P ν N ops (ops.toList.take (ops.size - 1)) ss && (match ops[ops.size - 1]? with
   | some o => chkDefer ν o x ys
   | none => false) && chkC P ν N b rest
 | .seq a b, .seq a' b' => chkC P ν N a a' && chkDf P ν N b b'
 | _, _ => false
def SEx.to : SEx → Exit
 | .normal => .normal
 | .exit i => .exit i
 | .ret => .ret
section
variable {P : Program} {D : List (Nat × List HV)} {ν : Nat → Option Nat} {w0 : World} {K0 : Nat → Nat} {H0 : Heap} {N : Nat}
theorem Spec_mono {g : Nat} {hs : List HV} {H : Heap} {Q Q' : HV → Heap → Prop} (hq : ∀ h H', Q h H' → Q' h H') (h : Spec P ν g hs H Q) : Spec P ν g hs H Q' :=
 fun n hn w K us h1 h2 => (h n hn w K us h1 h2).mono fun en w' ⟨u, h, H', K', a1, a2, a3, a4, a5⟩ => ⟨u, h, H', K', a1, a2, a3, a4, hq _ _ a5⟩
theorem Spec_frame : SFrame (Spec P ν) := by
 intro g hs H b r Q hb h n hn w K us hsat' hr
 have hsub : H.sub (H.upd b (some r)) := fun c r' hc => ⟨r', by rw [Heap.upd, if_neg (by rintro rfl; rw [hb] at hc; cases hc)]; exact hc, .inl rfl⟩
 have hlt : b < w.heap.size := hsat'.lt (b := b) (r := r) (by simp [Heap.upd])
 have hres := hsat'.res b r (by simp [Heap.upd])
 refine (h n hn w K us (hsat_sub hsat' hsub) hr).mono fun en w' ⟨u, x, H', K', e1, e2, e3, e4, e5⟩ => ?_
 obtain ⟨s1, s2, s3⟩ := e4.same b hlt hb
 refine ⟨u, x, H'.upd b (some r), K', e1, e2, ⟨fun c q hc => ?_, e3.fresh, e3.tab⟩, ⟨e4.os, e4.tape, e4.output, e4.size, e4.drawn, e4.grow, fun c hc hH => ?_⟩, H', s3, rfl, e5⟩
 · by_cases hcb : c = b
   · subst hcb
     simp only [Heap.upd, if_true, Option.some.injEq] at hc
     subst hc
     exact hres.move e4.grow s1 s2
   · rw [Heap.upd, if_neg hcb] at hc
     exact e3.res c q hc
 · have hcb : c ≠ b := by rintro rfl; simp [Heap.upd] at hH
   rw [Heap.upd, if_neg hcb] at hH
   obtain ⟨t1, t2, t3⟩ := e4.same c hc hH
   exact ⟨t1, t2, by rw [Heap.upd, if_neg hcb]; exact t3⟩
theorem csem_sound (hB : Bodies P ν) (hm : P.follows .mixedOrders = true) : ∀ (c : Code) (s : SC), chkC P ν N c s = true →
   ∀ {e : Env} {H : Heap} {a : Act} {w : World} {Qs : SEx → Env → Heap → Prop} {Q : Exit → Act → World → Prop}, St' D ν w0 K0 H0 N e H a w → csem (Spec P ν) s e H Qs →
     (∀ ex e' H' a' w', Qs ex e' H' → St' D ν w0 K0 H0 N e' H' a' w' → Q ex.to a' w') → c.wp P Q a w
 | .skip, .skip, _, e, H, a, w, Qs, Q, hst, hs, hQ => wp_skip (hQ .normal e H a w hs hst)
 | .region id ops draw, .reg ss, hk, e, H, a, w, Qs, Q, hst, hs, hQ => by
   simp only [chkC, Bool.and_eq_true, Bool.not_eq_true'] at hk
   obtain ⟨rfl, k1⟩ := hk
   obtain ⟨g1, g2⟩ := chkOs_get k1
   obtain ⟨K, μ, hst⟩ := hst
   simp only [csem] at hs
   refine wp_region ?_
   refine rsem_sound hB (List.range ops.size) ss (by rw [List.length_range, ← Array.length_toList]; exact g1) (fun k hk => ?_) hst hs (fun e' H' a' w' K' μ' h1 h2 => hQ .normal e' H' a' w' h1 ⟨K', μ', h2⟩)
   simp only [List.length_range] at hk
   obtain ⟨s, s1, s2⟩ := g2 k ops[k] (by simp [hk])
   exact ⟨ops[k], s, by simp [hk], s1, s2⟩
 | .region id ops draw, .dreg perm L, hk, e, H, a, w, Qs, Q, hst, hs, hQ => by
   simp only [chkC, Bool.and_eq_true] at hk
   obtain ⟨⟨rfl, k1⟩, k2⟩ := hk
   obtain ⟨K, μ, hst⟩ := hst
   simp only [csem] at hs
   refine wp_region_draw fun t => ?_
   obtain ⟨ys, y1, y2, y3⟩ := schedule_comes hm k1 t
   rw [y1]
   have hlive : Live e := fun t k o ht => (hst.slot t _ ht).2
   have hs' := reorder (S := Spec P ν) Spec_frame (fun g hs H Q Q' h h' => Spec_mono h h') y2 hlive hs
   have hlen : perm.length = ops.size := by
     simp only [drawOk, Bool.and_eq_true, decide_eq_true_eq] at k1
     exact k1.1.1.1.1
   refine rsem_sound hB (ys.map fun y => perm[y]!) (ys.map fun i => (L[i]!).o) (by simp) (fun k hk => ?_) (hst.draw (Nat.le_succ _)) hs' (fun e' H' a' w' K' μ' h1 h2 => hQ .normal e' H' a' w' h1 ⟨K', μ', h2⟩)
   simp only [List.length_map] at hk
   have hy := y3 ys[k] (List.getElem_mem hk)
   obtain ⟨o, o1, o2, o3⟩ := chkD_get k2 ys[k] (by omega)
   refine ⟨o, (L[ys[k]]!).o, ?_, by simp [hk], o3⟩
   have : (ys.map fun y => perm[y]!)[k]! = perm[ys[k]]! := by simp [hk]
   rw [this]; exact o1
 | .seq c1 c2, .seq s1 s2, hk, e, H, a, w, Qs, Q, hst, hs, hQ => by
   simp only [chkC, Bool.and_eq_true] at hk
   simp only [csem] at hs
   refine wp_seq (csem_sound hB hm c1 s1 hk.1 hst hs ?_)
   intro ex e' H' a' w' hq hst'
   cases ex with
   | normal =>
     obtain ⟨e1, H1, he, hq⟩ := hq
     exact csem_sound hB hm c2 s2 hk.2 (he _ _ _ _ _ _ _ _ hst') hq hQ
   | exit i => exact hQ (.exit i) _ _ _ _ hq hst'
   | ret => exact hQ .ret _ _ _ _ hq hst'
 | .cond c c1 c2, .cond c' s1 s2, hk, e, H, a, w, Qs, Q, hst, hs, hQ => by
   simp only [chkC, Bool.and_eq_true] at hk
   simp only [csem] at hs
   split at hs
   · rename_i t ht
     obtain ⟨K, μ, hst⟩ := hst
     have e1 := hv_sound hst hk.1.1 ht
     simp only [rep] at e1
     cases t with
     | true => exact wp_cond_true e1 (csem_sound hB hm c1 s1 hk.1.2 ⟨K, μ, hst⟩ (hs.1 rfl) hQ)
     | false => exact wp_cond_false e1 (csem_sound hB hm c2 s2 hk.2 ⟨K, μ, hst⟩ (hs.2 rfl) hQ)
   · exact hs.elim
 | .block i c1, .block j s1, hk, e, H, a, w, Qs, Q, hst, hs, hQ => by
   simp only [chkC, Bool.and_eq_true, decide_eq_true_eq] at hk
   obtain ⟨rfl, hk⟩ := hk
   simp only [csem] at hs
   refine wp_block (csem_sound hB hm c1 s1 hk hst hs ?_)
   intro ex e' H' a' w' hq hst'
   cases ex with
   | normal => exact hQ .normal _ _ _ _ hq hst'
   | exit k =>
     simp only [SEx.to, Exit.inBlock]
     simp only at hq
     split at hq
     · rename_i h; rw [if_pos h]; exact hQ .normal _ _ _ _ hq hst'
     · rename_i h; rw [if_neg h]; exact hQ (.exit k) _ _ _ _ hq hst'
   | ret => exact hQ .ret _ _ _ _ hq hst'
 | .loop c1, .loop s1, hk, e, H, a, w, Qs, Q, hst, hs, hQ => by
   simp only [chkC] at hk
   simp only [csem] at hs
   obtain ⟨I, ⟨n, e1, H1, he, hI⟩, hround⟩ := hs
   refine wp_loop_n (fun n a w => ∃ e H, I n e H ∧ St' D ν w0 K0 H0 N e H a w) (n := n) ⟨e1, H1, hI, he _ _ _ _ _ _ _ _ hst⟩ ?_
   rintro n a w ⟨e2, H2, hI2, hst2⟩
   refine csem_sound hB hm c1 s1 hk hst2 (hround n e2 H2 hI2) ?_
   intro ex e' H' a' w' hq hst'
   cases ex with
   | normal =>
     obtain ⟨m, e3, H3, hm, he3, hI3⟩ := hq
     exact ⟨m, hm, e3, H3, hI3, he3 _ _ _ _ _ _ _ _ hst'⟩
   | exit i => exact hQ (.exit i) _ _ _ _ hq hst'
   | ret => exact hQ .ret _ _ _ _ hq hst'
 | .exit i, .exit j, hk, e, H, a, w, Qs, Q, hst, hs, hQ => by
   simp only [chkC, decide_eq_true_eq] at hk
   subst hk
   exact wp_exit (hQ (.exit i) _ _ _ _ hs hst)
 | .ret, .ret, _, e, H, a, w, Qs, Q, hst, hs, hQ => wp_ret (hQ .ret _ _ _ _ hs hst)
 | .skip, .reg _, hk, _, _, _, _, _, _, _, _, _ | .skip, .dreg _ _, hk, _, _, _, _, _, _, _, _, _ | .skip, .seq _ _, hk, _, _, _, _, _, _, _, _, _ | .skip, .cond _ _ _, hk, _, _, _, _, _, _, _, _, _ | .skip, .block _ _, hk, _, _, _, _, _, _, _, _, _
 | .skip, .loop _, hk, _, _, _, _, _, _, _, _, _ | .skip, .exit _, hk, _, _, _, _, _, _, _, _, _ | .skip, .ret, hk, _, _, _, _, _, _, _, _, _ => by simp [chkC] at hk
 | .region _ _ _, .skip, hk, _, _, _, _, _, _, _, _, _ | .region _ _ _, .seq _ _, hk, _, _, _, _, _, _, _, _, _ | .region _ _ _, .cond _ _ _, hk, _, _, _, _, _, _, _, _, _ | .region _ _ _, .block _ _, hk, _, _, _, _, _, _, _, _, _
 | .region _ _ _, .loop _, hk, _, _, _, _, _, _, _, _, _ | .region _ _ _, .exit _, hk, _, _, _, _, _, _, _, _, _ | .region _ _ _, .ret, hk, _, _, _, _, _, _, _, _, _ => by simp [chkC] at hk
 | .seq _ _, .skip, hk, _, _, _, _, _, _, _, _, _ | .seq _ _, .reg _, hk, _, _, _, _, _, _, _, _, _ | .seq _ _, .dreg _ _, hk, _, _, _, _, _, _, _, _, _ | .seq _ _, .cond _ _ _, hk, _, _, _, _, _, _, _, _, _ | .seq _ _, .block _ _, hk, _, _, _, _, _, _, _, _, _
 | .seq _ _, .loop _, hk, _, _, _, _, _, _, _, _, _ | .seq _ _, .exit _, hk, _, _, _, _, _, _, _, _, _ | .seq _ _, .ret, hk, _, _, _, _, _, _, _, _, _ => by simp [chkC] at hk
 | .cond _ _ _, .skip, hk, _, _, _, _, _, _, _, _, _ | .cond _ _ _, .reg _, hk, _, _, _, _, _, _, _, _, _ | .cond _ _ _, .dreg _ _, hk, _, _, _, _, _, _, _, _, _ | .cond _ _ _, .seq _ _, hk, _, _, _, _, _, _, _, _, _ | .cond _ _ _, .block _ _, hk, _, _, _, _, _, _, _, _, _
 | .cond _ _ _, .loop _, hk, _, _, _, _, _, _, _, _, _ | .cond _ _ _, .exit _, hk, _, _, _, _, _, _, _, _, _ | .cond _ _ _, .ret, hk, _, _, _, _, _, _, _, _, _ => by simp [chkC] at hk
 | .block _ _, .skip, hk, _, _, _, _, _, _, _, _, _ | .block _ _, .reg _, hk, _, _, _, _, _, _, _, _, _ | .block _ _, .dreg _ _, hk, _, _, _, _, _, _, _, _, _ | .block _ _, .seq _ _, hk, _, _, _, _, _, _, _, _, _ | .block _ _, .cond _ _ _, hk, _, _, _, _, _, _, _, _, _
 | .block _ _, .loop _, hk, _, _, _, _, _, _, _, _, _ | .block _ _, .exit _, hk, _, _, _, _, _, _, _, _, _ | .block _ _, .ret, hk, _, _, _, _, _, _, _, _, _ => by simp [chkC] at hk
 | .loop _, .skip, hk, _, _, _, _, _, _, _, _, _ | .loop _, .reg _, hk, _, _, _, _, _, _, _, _, _ | .loop _, .dreg _ _, hk, _, _, _, _, _, _, _, _, _ | .loop _, .seq _ _, hk, _, _, _, _, _, _, _, _, _ | .loop _, .cond _ _ _, hk, _, _, _, _, _, _, _, _, _
 | .loop _, .block _ _, hk, _, _, _, _, _, _, _, _, _ | .loop _, .exit _, hk, _, _, _, _, _, _, _, _, _ | .loop _, .ret, hk, _, _, _, _, _, _, _, _, _ => by simp [chkC] at hk
 | .exit _, .skip, hk, _, _, _, _, _, _, _, _, _ | .exit _, .reg _, hk, _, _, _, _, _, _, _, _, _ | .exit _, .dreg _ _, hk, _, _, _, _, _, _, _, _, _ | .exit _, .seq _ _, hk, _, _, _, _, _, _, _, _, _ | .exit _, .cond _ _ _, hk, _, _, _, _, _, _, _, _, _
 | .exit _, .block _ _, hk, _, _, _, _, _, _, _, _, _ | .exit _, .loop _, hk, _, _, _, _, _, _, _, _, _ | .exit _, .ret, hk, _, _, _, _, _, _, _, _, _ => by simp [chkC] at hk
 | .ret, .skip, hk, _, _, _, _, _, _, _, _, _ | .ret, .reg _, hk, _, _, _, _, _, _, _, _, _ | .ret, .dreg _ _, hk, _, _, _, _, _, _, _, _, _ | .ret, .seq _ _, hk, _, _, _, _, _, _, _, _, _ | .ret, .cond _ _ _, hk, _, _, _, _, _, _, _, _, _
 | .ret, .block _ _, hk, _, _, _, _, _, _, _, _, _ | .ret, .loop _, hk, _, _, _, _, _, _, _, _, _ | .ret, .exit _, hk, _, _, _, _, _, _, _, _, _ => by simp [chkC] at hk
 | .rangeFunc _ _ _ _, s, hk, _, _, _, _, _, _, _, _, _ | .scope _, s, hk, _, _, _, _, _, _, _, _, _ | .label _, s, hk, _, _, _, _, _, _, _, _, _ | .goto _, s, hk, _, _, _, _, _, _, _, _, _ | .refuse _, s, hk, _, _, _, _, _, _, _, _, _ => by
   cases s <;> simp [chkC] at hk
end
end Sm
namespace Sm
open Go
def chkRes (P : Program) (N : Nat) : List ResultVar → List SRes → Bool
 | [], [] => true
 | .tmp t :: rs, .t s :: ss => decide (t = s) && decide (s < N) && chkRes P N rs ss
 | .cell t T :: rs, .cell s agg n :: ss => decide (t = s) && decide (szOf P T = some n) && decide (aggOf P T = some agg) && (agg || decide (n = 1)) && chkRes P N rs ss
 | _, _ => false
def chkF (P : Program) (ν : Nat → Option Nat) (f : Func) (s : SF) : Bool :=
 (match f.body with
   | some c => if s.body.isD then chkDf P ν s.N c s.body else chkC P ν s.N c s.body
   | none => false) && decide (f.ntmps = s.N) && decide (s.np ≤ s.N) && chkRes P s.N f.results.toList s.res && !(f.name == "runtime.NumGoroutine")
structure Linked (code : Nat → SF) where
 P : Program
 ν : Nat → Option Nat
 mixed : P.follows .mixedOrders = true
 link : ∀ n g, fnat ν n g → ∃ f, P.funcs[n]? = some f ∧ chkF P ν f (code g) = true
theorem Linked.bodies {code : Nat → SF} (L : Linked code) : Bodies L.P L.ν := by
 intro n g hn
 obtain ⟨f, hf, hk⟩ := L.link n g hn
 simp only [chkF, Bool.and_eq_true, Bool.not_eq_true'] at hk
 refine ⟨f, hf, ?_, hk.2⟩
 have := hk.1.1.1.1
 cases hb : f.body with
 | none => rw [hb] at this; cases this
 | some c => rfl
section
variable {P : Program} {D : List (Nat × List HV)} {ν : Nat → Option Nat} {w0 : World} {K0 : Nat → Nat} {H0 : Heap} {N : Nat} {e : Env} {H : Heap} {a : Act} {w : World} {K μ : Nat → Nat}
theorem run_results (hst : St D ν w0 K0 H0 N e H a w K μ) : ∀ (rs : List ResultVar) (ss : List SRes), chkRes P N rs ss = true → ∀ {hs : List HV}, resList e H ss = some hs →
   ∃ us, (rs.mapM fun r => (match r with | .tmp t => pure (a.tmps.getD t undef) | .cell ad t => do loadVar t (← asAddr (a.tmps.getD ad undef)) : Sem Value)).run P w = .ok us w ∧ repL ν K w hs us
 | [], [], _, hs, h => by
   simp only [resList, Option.some.injEq] at h; subst h
   exact ⟨[], by simp, by simp [repL]⟩
 | .tmp t :: rs, .t s :: ss, hk, hs, h => by
   simp only [chkRes, Bool.and_eq_true, decide_eq_true_eq] at hk
   obtain ⟨⟨rfl, k1⟩, k2⟩ := hk
   simp only [resList] at h
   split at h
   · rename_i h1 hs1 e1 e2
     simp only [Option.some.injEq] at h; subst h
     obtain ⟨us, u1, u2⟩ := run_results hst rs ss k2 e2
     have hv := hv_sound hst (x := .tmp t) (y := .s t) (by simp [okOpd]) e1
     refine ⟨a.tmps.getD t undef :: us, ?_, ⟨_, _, rfl, hv, u2⟩⟩
     simp only [List.mapM_cons, Sem.run_bind, Sem.run_pure, Result.andThen_ok, u1]
   · cases h
 | .cell t T :: rs, .cell s agg n :: ss, hk, hs, h => by
   simp only [chkRes, Bool.and_eq_true, decide_eq_true_eq] at hk
   obtain ⟨⟨⟨⟨rfl, k1⟩, k2⟩, k3⟩, k4⟩ := hk
   simp only [resList] at h
   split at h
   · rename_i h1 hs1 e1 e2
     simp only [Option.some.injEq] at h; subst h
     obtain ⟨us, u1, u2⟩ := run_results hst rs ss k4 e2
     simp only [SRes.val] at e1
     split at e1
     · rename_i hh hl
       simp only [Option.some.injEq] at e1; subst e1
       obtain ⟨u, c1, c2, c3⟩ := ev_load (P := P) (o := { dst := none, op := .load T (.tmp t), type := 0, pos := "", after := #[], guard := none }) hst rfl k1 k2 k3 (x := .tmp t) (x' := .s t) (by simp [okOpd]) hl
       have hload : (do loadVar T (← asAddr (a.tmps.getD t undef)) : Sem Value).run P w = .ok u w := by
         have c1' : ((Instr.loadAt T (a.tmps.getD t undef)).run P w).andThen (fun v w' => Result.ok (Next.value v) w') = .ok (.value u) w := by
           simpa [execOp, Act.eval] using c1
         generalize a.tmps.getD t undef = pv at c1' ⊢
         cases pv
         case pointer ad =>
           cases ad with
           | none => simp [Instr.loadAt, Instr.sureAddr] at c1'
           | some ad =>
             have hsame : (Instr.loadAt T (.pointer (some ad))).run P w = (loadVar T ad).run P w := by simp [Instr.loadAt, Instr.sureAddr]
             rw [hsame] at c1'
             have hsame2 : (do loadVar T (← asAddr (.pointer (some ad))) : Sem Value).run P w = (loadVar T ad).run P w := by simp [asAddr]
             rw [hsame2]
             cases hr : (loadVar T ad).run P w with
             | ok v w' => rw [hr] at c1'; simp at c1'; rw [c1'.1, c1'.2]
             | halt x w' => rw [hr] at c1'; simp at c1'
         all_goals simp [Instr.loadAt, Instr.sureAddr] at c1'
       refine ⟨u :: us, ?_, ⟨_, _, rfl, c2, u2⟩⟩
       simp only [List.mapM_cons, Sem.run_bind] at hload ⊢
       simp only [hload, Result.andThen_ok, u1, Sem.run_pure]
     · cases e1
   · cases h
 | [], _ :: _, hk, _, _ => by simp [chkRes] at hk
 | .tmp _ :: _, [], hk, _, _ => by simp [chkRes] at hk
 | .cell _ _ :: _, [], hk, _, _ => by simp [chkRes] at hk
 | .tmp _ :: _, .cell _ _ _ :: _, hk, _, _ => by simp [chkRes] at hk
 | .cell _ _ :: _, .t _ :: _, hk, _, _ => by simp [chkRes] at hk
theorem run_results_fn (hst : St D ν w0 K0 H0 N e H a w K μ) {f : Func} {ss : List SRes} (hk : chkRes P N f.results.toList ss = true) {hs : List HV} (h : resList e H ss = some hs) :
   ∃ u, (results f a.tmps).run P w = .ok u w ∧ rep ν K w (tupled hs) u := by
 obtain ⟨us, u1, u2⟩ := run_results (P := P) hst f.results.toList ss hk h
 have hlen := repL_length u2
 have harr : (f.results.mapM fun r => (match r with | .tmp t => pure (a.tmps.getD t undef) | .cell ad t => do loadVar t (← asAddr (a.tmps.getD ad undef)) : Sem Value)).run P w = .ok us.toArray w := by
   rw [Array.mapM_eq_mapM_toList]
   simp only [Sem.run_map, u1, Result.andThen_ok]
 have hres : (results f a.tmps).run P w = .ok (if h : us.toArray.size = 1 then us.toArray[0] else .tuple us.toArray) w := by
   have hfun : results f a.tmps = (f.results.mapM fun r => (match r with | .tmp t => pure (a.tmps.getD t undef) | .cell ad t => do loadVar t (← asAddr (a.tmps.getD ad undef)) : Sem Value)) >>= fun vs => pure (if h : vs.size = 1 then vs[0] else .tuple vs) := by
     unfold results
     congr 2
   rw [hfun, Sem.run_bind, harr]
   rfl
 rw [hres]
 match hs, us, hlen, u2 with
 | [], [], _, u2 => exact ⟨_, rfl, by simp [tupled, rep, repL]⟩
 | [h1], [u], _, u2 =>
   obtain ⟨v, vs, e1, e2, e3⟩ := u2
   simp only [List.cons.injEq] at e1
   obtain ⟨rfl, rfl⟩ := e1
   exact ⟨u, by simp, e2⟩
 | h1 :: h2 :: hs, u :: v :: us, _, u2 => exact ⟨_, rfl, by simp only [tupled, rep]; exact ⟨_, rfl, u2⟩⟩
end
def Ans (ν : Nat → Option Nat) (w : World) (K : Nat → Nat) (H : Heap) (Q : HV → Heap → Prop) (en : Ending) (w' : World) : Prop :=
 ∃ u h H' K', en = .returned u ∧ rep ν K' w' h u ∧ hsat ν w' K' H' ∧ Ext (quiet ν) w K H w' K' H' ∧ Q h H'
theorem start_st {L : Nat → Option Nat} {w : World} {K : Nat → Nat} {H : Heap} {N nt : Nat} {args : List HV} {us : List Value} (hs : hsat L w K H) (hr : repL L K w args us) (hN : nt = N) (hle : us.length ≤ N) :
   St [] L w K H N (initE args) H { tmps := us.toArray ++ Array.replicate (nt - us.toArray.size) undef, defers := [] } w K (fun _ => 0) := by
 have hlen := repL_length hr
 refine ⟨hs, by simp; omega, rfl, fun t x hx => ?_, fun k cs hk => by simp [initE, Env.box] at hk, fun i j c c' hi => by simp [initE, Env.box] at hi, Ext.refl _ _ _⟩
 simp only [initE, Env.get] at hx
 obtain ⟨v, hv, rfl⟩ := Option.map_eq_some_iff.1 hx
 obtain ⟨u, hu1, hu2⟩ := repL_get hr hv
 refine ⟨?_, trivial⟩
 have ht : t < us.length := by
   rcases Nat.lt_or_ge t us.length with h | h
   · exact h
   · rw [List.getElem?_eq_none h] at hu1; cases hu1
 simp only [repE, Array.getD_eq_getD_getElem?]
 rw [Array.getElem?_append_left (by simpa using ht)]
 simpa [hu1] using hu2
theorem fin_ans {P : Program} {D : List (Nat × List HV)} {ν : Nat → Option Nat} {w0 : World} {K0 : Nat → Nat} {H0 : Heap} {N : Nat} {e : Env} {H : Heap} {a : Act} {w : World} {f : Func} {res : List SRes} {Q : HV → Heap → Prop}
   (k4 : chkRes P N f.results.toList res = true) (h : finS res Q e H) (hst0 : St' D ν w0 K0 H0 N e H a w) : ∃ v, (results f a.tmps).run P w = .ok v w ∧ Ans ν w0 K0 H0 Q (.returned v) w := by
 obtain ⟨e', H', hvs, hres⟩ := h
 obtain ⟨K', μ', hst'⟩ := hvs _ _ _ _ _ _ _ _ hst0
 split at hres
 · rename_i hs' hrl
   obtain ⟨h', H'', hw, hsub, hq⟩ := hres
   obtain ⟨u, u1, u2⟩ := run_results_fn (P := P) hst' k4 hrl
   exact ⟨u, u1, u, h', H'', K', rfl, hw _ _ _ _ u2, hsat_sub hst'.hs hsub, hst'.ext.sub hsub, hq⟩
 · exact hres.elim
theorem body_wp {code : Nat → SF} (L : Linked code) {g n : Nat} {args : List HV} {H : Heap} {Q : HV → Heap → Prop} (hd : (code g).body.isD = false) (h : (code g).sem (Spec L.P L.ν) args H Q) (hn : fnat L.ν n g) {w : World} {K : Nat → Nat} {us : List Value}
   (hs : hsat L.ν w K H) (hr : repL L.ν K w args us) : ∃ f c, L.P.funcs[n]? = some f ∧ f.body = some c ∧
     c.wp L.P (bodyPost L.P f (Ans L.ν w K H Q)) { tmps := us.toArray ++ Array.replicate (f.ntmps - us.toArray.size) undef, defers := [] } w := by
 obtain ⟨f, hf, hk⟩ := L.link n g hn
 simp only [chkF, hd, Bool.and_eq_true, decide_eq_true_eq, Bool.not_eq_true', Bool.false_eq_true, if_false] at hk
 obtain ⟨⟨⟨⟨k1, k2⟩, k3⟩, k4⟩, k5⟩ := hk
 cases hb : f.body with
 | none => rw [hb] at k1; cases k1
 | some c =>
   rw [hb] at k1
   simp only at k1
   obtain ⟨h1, h2⟩ := h
   have hlen := repL_length hr
   refine ⟨f, c, hf, hb, ?_⟩
   have hst := start_st (N := (code g).N) hs hr k2 (by omega)
   refine csem_sound L.bodies L.mixed c (code g).body k1 ⟨_, _, hst⟩ h2 ?_
   intro ex e0' H0' a' w' ⟨hex, hfin⟩ hst0
   have hdf : a'.defers = [] := by obtain ⟨_, _, h⟩ := hst0; exact h.df
   obtain ⟨u, u1, u2⟩ := fin_ans (f := f) k4 hfin hst0
   rcases hex with rfl | rfl <;> exact ⟨hdf, u, u1, u2⟩
theorem spec_of {code : Nat → SF} (L : Linked code) {g : Nat} {args : List HV} {H : Heap} {Q : HV → Heap → Prop} (h : (code g).sem (Spec L.P L.ν) args H Q) (hd : (code g).body.isD = false) : Spec L.P L.ν g args H Q := by
 intro n hn w K us hs hr
 obtain ⟨f, c, hf, hb, hw⟩ := body_wp L hd h hn hs hr
 exact calls_of_wp hf hb hw
theorem range_last {n : Nat} (h : 0 < n) : List.range n = List.range (n - 1) ++ [n - 1] := by
 obtain ⟨m, rfl⟩ : ∃ m, n = m + 1 := ⟨n - 1, by omega⟩
 rw [List.range_succ]; rfl
theorem fsem_sound {code : Nat → SF} (L : Linked code) {f : Func} {N : Nat} {w0 : World} {K0 : Nat → Nat} {H0 : Heap} {R : Ending → World → Prop} {fin : Env → Heap → Prop}
   (hfin : ∀ D e H a w, fin e H → St' D L.ν w0 K0 H0 N e H a w → ∃ v, (results f a.tmps).run L.P w = .ok v w ∧ R (.returned v) w) : ∀ (c : Code) (s : SC), chkDf L.P L.ν N c s = true → ∀ {e : Env} {H : Heap} {a : Act} {w : World},
     St' [] L.ν w0 K0 H0 N e H a w → fsem code (Spec L.P L.ν) fin s e H → c.wp L.P (bodyPostD L.P f R) a w
 | c, .seq a' b', hk, e, H, a, w, hst, hs => by
   cases c <;> simp only [chkDf, Bool.false_eq_true] at hk
   rename_i c1 c2
   simp only [Bool.and_eq_true] at hk
   simp only [fsem] at hs
   refine wp_seq (csem_sound L.bodies L.mixed c1 a' hk.1 hst hs ?_)
   intro ex e' H' a1 w1 hq hst1
   have hdf : a1.defers = [] := by obtain ⟨_, _, h⟩ := hst1; exact h.df
   cases ex with
   | normal =>
     obtain ⟨e1, H1, he, hq⟩ := hq
     exact fsem_sound L hfin c2 b' hk.2 (he _ _ _ _ _ _ _ _ hst1) hq
   | exit i => exact hq.elim
   | ret =>
     show Leaves L.P f a1.tmps R a1.defers .returning w1
     rw [hdf]
     exact hfin _ _ _ _ _ hq hst1
 | c, .dfr ss x ys gd rest, hk, e, H, a, w, hst, hs => by
   cases c <;> (try simp only [chkDf, Bool.false_eq_true] at hk)
   rename_i c1 c2
   cases c1 <;> (try simp only [chkDf, Bool.false_eq_true] at hk)
   rename_i id ops draw
   simp only [Bool.and_eq_true, Bool.not_eq_true'] at hk
   obtain ⟨⟨⟨rfl, k1⟩, k2⟩, k3⟩ := hk
   cases hlast : ops[ops.size - 1]? with
   | none => rw [hlast] at k2; cases k2
   | some o =>
     rw [hlast] at k2
     simp only [chkDefer, Bool.and_eq_true, Option.isNone_iff_eq_none] at k2
     obtain ⟨⟨k2, k4⟩, k5⟩ := k2
     have hsz : 0 < ops.size := by
       rcases Nat.eq_zero_or_pos ops.size with h | h
       · rw [Array.getElem?_eq_none (by omega)] at hlast; cases hlast
       · exact h
     obtain ⟨K, μ, hst⟩ := hst
     simp only [fsem] at hs
     refine wp_seq (wp_region ?_)
     rw [range_last hsz]
     obtain ⟨g1, g2⟩ := chkOs_get k1
     have hl1 : (ops.toList.take (ops.size - 1)).length = ops.size - 1 := by rw [List.length_take, Array.length_toList]; omega
     refine rsem_soundT L.bodies (List.range (ops.size - 1)) ss (by rw [List.length_range]; omega) (fun k hk => ?_) hst hs ?_
     · simp only [List.length_range] at hk
       obtain ⟨s, s1, s2⟩ := g2 k ops[k] (by rw [List.getElem?_take_of_lt hk]; simp)
       exact ⟨ops[k], s, by simp [hk], s1, s2⟩
     intro e' H' a1 w1 K1 μ1 hs1 hst1
     cases hop : o.op <;> simp only [hop, Bool.false_eq_true] at k2
     rename_i c
     cases hcl : c.callee <;> simp only [hcl, Bool.false_eq_true] at k2
     rename_i xo
     simp only [Bool.and_eq_true] at k2
     split at hs1
     case h_2 => exact hs1.elim
     rename_i g caps hs' hx hys
     obtain ⟨rfl, hD, hs1⟩ := hs1
     have e1 := hv_sound hst1 k2.1 hx
     simp only [rep] at e1
     obtain ⟨n, us, n1, n2, n3⟩ := e1
     have r0 := hvs_sound hst1 k2.2 hys
     let dd : Deferred := { target := .fn (.func n) us.toArray, args := #[] ++ c.args.map a1.eval }
     have hrun : (execOp a1.eval o).run L.P w1 = .ok (.defer dd) w1 := by
       simp [execOp, hop, resolve, hcl, n2, Deferred.ofValue, dd]
     simp only [wpOps, hlast]
     rw [if_pos (by simp [Region.wanted, k5])]
     left
     unfold Oper.wp
     rw [hrun, Oper.upon_defer, k4]
     show c2.wp L.P (bodyPostD L.P f R) { a1 with defers := dd :: a1.defers } w1
     have r1 : repL L.ν K1 w1 (hs' ++ caps) ((c.args.map a1.eval).toList ++ us) := repL_append (by simpa using r0) n3
     have hst2 : St [(n, hs' ++ caps)] L.ν w0 K0 H0 N e' H' { a1 with defers := dd :: a1.defers } w1 K1 μ1 := ⟨hst1.hs, hst1.sz, ⟨#[] ++ c.args.map a1.eval, us.toArray, [], by rw [show a1.defers = [] from hst1.df], by simpa using r1, rfl⟩, hst1.slot, hst1.box, hst1.inj, hst1.ext⟩
     refine csem_sound L.bodies L.mixed c2 rest k3 ⟨_, _, hst2⟩ hs1 ?_
     intro ex e2 H2 a2 w2 ⟨hex, e3, H3, hvs, hsem⟩ hst3
     obtain ⟨K3, μ3, hst4⟩ := hvs _ _ _ _ _ _ _ _ hst3
     obtain ⟨vs, vs', ds', d1, d2, d3⟩ := hst4.df
     have d3' : ds' = [] := d3
     subst d3'
     have hleave : Leaves L.P f a2.tmps R a2.defers .returning w2 := by
       rw [d1]
       obtain ⟨fd, cd, f1, f2, f3⟩ := body_wp L hD hsem n1 hst4.hs d2
       obtain ⟨fb, b1, b2, b3⟩ := L.bodies n g n1
       refine ⟨by simp, .func n, vs', n, (vs.toList ++ vs'.toList).toArray, rfl, ?_, (callsD_of_wp (u := .returning) f1 f2 f3).mono ?_⟩
       · have e1 : vs ++ vs' = (vs.toList ++ vs'.toList).toArray := by apply Array.ext'; simp
         simp only [invoke]
         rw [e1]
         simp only [callFunc, Sem.run_bind, run_program, Result.andThen_ok, b1, b3, b2, Bool.false_eq_true, if_false, Sem.run_pure]
       · rintro en u' w4 ⟨rfl, u, h, H4, K4, rfl, r1, r2, r3, r4⟩
         show Leaves L.P f a2.tmps R [] (settle .returning) w4
         exact hfin _ _ _ _ _ r4 ⟨K4, μ3, hst4.step r3 r2⟩
     rcases hex with rfl | rfl <;> exact hleave
 | c, .skip, hk, _, _, _, _, _, _ => by cases c <;> simp [chkDf] at hk
 | c, .reg _, hk, _, _, _, _, _, _ => by cases c <;> simp [chkDf] at hk
 | c, .dreg _ _, hk, _, _, _, _, _, _ => by cases c <;> simp [chkDf] at hk
 | c, .cond _ _ _, hk, _, _, _, _, _, _ => by cases c <;> simp [chkDf] at hk
 | c, .block _ _, hk, _, _, _, _, _, _ => by cases c <;> simp [chkDf] at hk
 | c, .loop _, hk, _, _, _, _, _, _ => by cases c <;> simp [chkDf] at hk
 | c, .exit _, hk, _, _, _, _, _, _ => by cases c <;> simp [chkDf] at hk
 | c, .ret, hk, _, _, _, _, _, _ => by cases c <;> simp [chkDf] at hk
theorem spec_ofD {code : Nat → SF} (L : Linked code) {g : Nat} {args : List HV} {H : Heap} {Q : HV → Heap → Prop} (h : (code g).dsem code (Spec L.P L.ν) args H Q) (hd : (code g).body.isD = true) : Spec L.P L.ν g args H Q := by
 intro n hn w K us hs hr
 obtain ⟨f, hf, hk⟩ := L.link n g hn
 simp only [chkF, hd, Bool.and_eq_true, decide_eq_true_eq, Bool.not_eq_true', if_true] at hk
 obtain ⟨⟨⟨⟨k1, k2⟩, k3⟩, k4⟩, k5⟩ := hk
 cases hb : f.body with
 | none => rw [hb] at k1; cases k1
 | some c =>
   rw [hb] at k1
   simp only at k1
   obtain ⟨h1, h2⟩ := h
   have hlen := repL_length hr
   have hst := start_st (N := (code g).N) hs hr k2 (by omega)
   exact calls_of_wp_defers hf hb (fsem_sound L (fun D e H a w hf' hst' => fin_ans (f := f) k4 hf' hst') c _ k1 ⟨_, _, hst⟩ h2)
end Sm
