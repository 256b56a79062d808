/-
  K
-/
import Derived.Test.YtegmmhldpmmkeaaGreatDoorSmLC
import Derived.Laws.BytesString
import Derived.Laws.IdiomStrings
import Derived.Laws.Externs
set_option linter.unusedVariables false
set_option linter.unusedSimpArgs false
set_option linter.unnecessarySimpa false
namespace Sm
open Go
section
variable {P : Program} {D : List (Nat × List HV)} {ν : Nat → Option Nat} {w0 : World} {K0 : Nat → Nat} {H0 : Heap} {N : Nat} {e : Env} {H : Heap} {a : Act} {w : World} {K μ : Nat → Nat} {o : Oper}
def NdRun (P : Program) (ν : Nat → Option Nat) (K : Nat → Nat) (H : Heap) (a : Act) (w : World) (o : Oper) (R : HV → Prop) : Prop :=
 ∃ u w' K' h, (execOp a.eval o).run P w = .ok (.value u) w' ∧ Ext (quiet ν) w K H w' K' H ∧ hsat ν w' K' H ∧ rep ν K' w' h u ∧ R h
theorem hvs_one {x : Opd} {hs : List HV} (hh : e.hvs [x] = some hs) : ∃ z, e.hv x = some z ∧ hs = [z] := by
 simp only [Env.hvs] at hh
 split at hh
 · rename_i z zs h1 h2
   simp only [Option.some.injEq] at h2 hh; subst h2 hh
   exact ⟨z, h1, rfl⟩
 · cases hh
theorem nd_isnil (hst : St D ν w0 K0 H0 N e H a w K μ) {ne : Bool} {t x y yt x'} (ho : o.op = .binOp (if ne then .neq else .eql) t x y yt) (hy : isNilC y = true) (hk : okEq P t .slc = true) (hx : okOpd ν x x' = true) {hs} (hh : e.hvs [x'] = some hs) {R : HV → Prop} (hR : ndK (.isnil ne) hs H R) :
   NdRun P ν K H a w o R := by
 obtain ⟨z, hz, rfl⟩ := hvs_one hh
 have e1 := hv_sound hst hx hz
 have e2 : a.eval y = .slice none 0 0 := by
   unfold isNilC at hy
   split at hy
   · rfl
   · cases hy
 simp only [okEq] at hk
 split at hk
 · rename_i el hu
   have fin : ∀ A n c (r : Bool), a.eval x = .slice A n c → r = A.isNone → (execOp a.eval o).run P w = .ok (.value (.bool (if ne then !r else r))) w := by
     intro A n c r hA hr
     have h1 : (Op.equal t (.slice A n c) (.slice none 0 0)).run P w = .ok r w := by
       subst hr
       have h0 : ∀ d, (Op.equalIn (d + 1) t (.slice A n c) (.slice none 0 0)).run P w = .ok A.isNone w := by
         intro d; cases A <;> simp [Op.equalIn, run_underlying hu]
       exact h0 9999
     have g : ∀ op, eqGuard op t x y (.slice A n c) (.slice none 0 0) = pure () := fun op => by cases op <;> rfl
     have b1 : binOp .eql t (.slice A n c) (.slice none 0 0) = (do pure (.bool (← Op.equal t (.slice A n c) (.slice none 0 0)))) := rfl
     have b2 : binOp .neq t (.slice A n c) (.slice none 0 0) = (do pure (.bool (!(← Op.equal t (.slice A n c) (.slice none 0 0))))) := rfl
     cases ne <;> simp [execOp, ho, hA, e2, g, b1, b2, h1]
   unfold ndK at hR
   split at hR
   · rename_i ne' n c _ hl
     simp only [List.cons.injEq, and_true] at hl; subst hl
     rename_i hne
     injection hne with hne; subst hne
     simp only [rep] at e1
     exact ⟨_, w, K, .v (.bool (if ne then !true else true)), fin _ _ _ true e1 rfl, Ext.refl _ _ _, hst.hs, by simp [rep], by cases ne <;> exact hR⟩
   · rename_i ne' tk sz es _ hl
     simp only [List.cons.injEq, and_true] at hl; subst hl
     rename_i hne
     injection hne with hne; subst hne
     simp only [rep] at e1
     obtain ⟨A, cap, vals, g1, g2, g3, g4, g5, g6, g7, g8⟩ := e1
     refine ⟨_, w, K, .v (.bool (if ne then !A.isNone else A.isNone)), fin _ _ _ A.isNone g1 rfl, Ext.refl _ _ _, hst.hs, by simp [rep], hR A.isNone fun ha => ?_⟩
     rcases g8 with g8 | ⟨b, off, hA, _⟩
     · exact g8
     · subst hA; cases ha
   all_goals first | (rename_i h _; cases h; done) | exact hR.elim
 · cases hk
theorem bytes_cells {s : ByteArray} : ∀ {vals : List Value}, repL ν K w (bytesHV s) vals → flat vals = s.data.toList.map fun b => .int .u8 b.toNat := by
 unfold bytesHV
 generalize s.data.toList = l
 induction l with
 | nil => intro vals h; simp [repL] at h; subst h; rfl
 | cons b l ih =>
   intro vals h
   simp only [List.map_cons, repL, byteHV, rep] at h
   obtain ⟨u, us', rfl, rfl, h3⟩ := h
   have := ih (by simpa [byteHV] using h3)
   simp only [flat, List.flatMap_cons, List.map_cons] at this ⊢
   rw [this]; rfl
theorem bytes_cells1 {s : ByteArray} : ∀ {vals : List Value}, repL ν K w (bytesHV s) vals → vals = s.data.toList.map fun b => .int .u8 b.toNat := by
 unfold bytesHV
 generalize s.data.toList = l
 induction l with
 | nil => intro vals h; simp [repL] at h; exact h
 | cons b l ih =>
   intro vals h
   simp only [List.map_cons, repL, byteHV, rep] at h
   obtain ⟨u, us', rfl, rfl, h3⟩ := h
   have h4 := ih (vals := us') (by simpa [byteHV] using h3)
   rw [List.map_cons, h4]
theorem isBytes_under {T : TypeId} (h : isBytes P T = true) : ∃ e, P.underlying T = some (.slice e) ∧ P.underlying e = some (.int .u8) := by
 unfold isBytes at h
 split at h
 · rename_i e he
   split at h
   · exact ⟨e, he, by assumption⟩
   · cases h
 · cases h
theorem nd_b2s (hst : St D ν w0 K0 H0 N e H a w K μ) {src dst x x'} (ho : o.op = .convert src dst x) (h1 : isBytes P src = true) (h2 : isStr P dst = true) (hx : okOpd ν x x' = true) {hs} (hh : e.hvs [x'] = some hs) {R : HV → Prop} (hR : ndK .b2s hs H R) : NdRun P ν K H a w o R := by
 obtain ⟨z, hz, rfl⟩ := hvs_one hh
 have e1 := hv_sound hst hx hz
 obtain ⟨el, u1, u2⟩ := isBytes_under h1
 have u3 := isStr_under h2
 have fin : ∀ v s, a.eval x = v → (convert src dst v).run P w = .ok (.string s) w → R (.v (.string s)) → NdRun P ν K H a w o R := by
   intro v s hv hr hR
   exact ⟨.string s, w, K, .v (.string s), by simp [execOp, ho, hv, hr], Ext.refl _ _ _, hst.hs, by simp [rep], hR⟩
 unfold ndK at hR
 split at hR
 all_goals first | (rename_i h _; cases h; done) | skip
 · rename_i tk es _ hl
   simp only [List.cons.injEq, and_true] at hl; subst hl
   obtain ⟨s, rfl, hR⟩ := hR
   simp only [rep] at e1
   obtain ⟨A, cap, vals, g1, g2, g3, g4, g5, g6, g7, g8⟩ := e1
   have hlen : (bytesHV s).length = s.data.toList.length := by simp [bytesHV]
   have hs : (⟨s.data.toList.toArray⟩ : ByteArray) = s := by cases s; simp
   rcases g8 with g8 | ⟨b, off, rfl, _, hc⟩
   · have hnil : s.data.toList = [] := by have := congrArg List.length g8; rw [hlen] at this; exact List.length_eq_zero_iff.mp this
     refine fin _ s g1 ?_ hR
     rw [run_convert_bytes_string w src dst el A _ cap u1 u2 u3]
     have hse : s = ByteArray.empty := by rw [← hs, hnil]; rfl
     cases A with
     | none => simp [Conv.bytesToString, hse]
     | some ad =>
       have h0 : (bytesHV s).length = 0 := by rw [hlen, hnil]; rfl
       rw [h0]
       have := run_bytesToString (P := P) w ad 0 cap [] (by
         have := run_loadCells_list (P := P) w ad ([] : List Value) (fun j v hj => by simp at hj)
         simpa using this)
       rw [this, hse]; rfl
   · refine fin _ s g1 ?_ hR
     rw [hlen]
     have := run_convert_bytes_back (P := P) w src dst el ⟨b, off, none⟩ cap s.data.toList u1 u2 u3 (fun j hj => by
       rw [addr_add]
       refine hc j _ ?_
       rw [bytes_cells g7]
       simp [List.getElem?_eq_getElem hj])
     rw [this, hs]
 · rename_i _ hl
   simp only [List.cons.injEq, and_true] at hl; subst hl
   simp only [rep] at e1
   refine fin _ _ e1 ?_ hR
   rw [run_convert_bytes_string w src dst el none 0 0 u1 u2 u3]
   simp [Conv.bytesToString]; rfl
 · rename_i b off n c _ hl
   simp only [List.cons.injEq, and_true] at hl; subst hl
   split at hR
   · rename_i cs hb
     obtain ⟨hle, s, hes, hR⟩ := hR
     simp only [rep] at e1
     obtain ⟨us, T, r1, r2, r3, r4⟩ := hst.hs.res b _ hb
     have h1 := repL_take n (repL_drop off r3)
     rw [hes] at h1
     have hlen : (bytesHV s).length = n := by rw [← hes, List.length_take, List.length_drop]; omega
     have hlen2 : s.data.toList.length = n := by rw [← hlen]; simp [bytesHV]
     have hs : (⟨s.data.toList.toArray⟩ : ByteArray) = s := by cases s; simp
     have hc := cellsAt_take (cellsAt_drop (cellsAt_take (cellsAt_block r1) cs.length) off) n
     rw [bytes_cells1 h1] at hc
     refine fin _ s e1 ?_ hR
     have := run_convert_bytes_back (P := P) w src dst el ⟨b, off, none⟩ c s.data.toList u1 u2 u3 (fun j hj => by
       rw [addr_add]
       have h3 := hc j (.int .u8 (s.data.toList[j]).toNat) (by simp [List.getElem?_eq_getElem hj])
       simpa using h3)
     rw [hlen2] at this
     rw [this, hs]
   · exact hR.elim
 all_goals exact hR.elim
theorem nd_s2b (hst : St D ν w0 K0 H0 N e H a w K μ) {src dst x x'} (ho : o.op = .convert src dst x) (h1 : isStr P src = true) (h2 : isBytes P dst = true) (hx : okOpd ν x x' = true) {hs} (hh : e.hvs [x'] = some hs) {R : HV → Prop} (hR : ndK .s2b hs H R) : NdRun P ν K H a w o R := by
 obtain ⟨z, hz, rfl⟩ := hvs_one hh
 have e1 := hv_sound hst hx hz
 obtain ⟨el, u1, u2⟩ := isBytes_under h2
 have u3 := isStr_under h1
 unfold ndK at hR
 split at hR
 all_goals first | (rename_i h _; cases h; done) | skip
 · rename_i s _ hl
   simp only [List.cons.injEq, and_true] at hl; subst hl
   simp only [rep] at e1
   have hr := run_bytes_of_string (P := P) w src dst el s u3 u1 u2
   have hd : hsat ν w.drew K H := hst.hs.draw
   obtain ⟨x1, x2⟩ := push_commit hd (bytesRow s (grownCap w s.size 0 el)) el (bytesRow s (grownCap w s.size 0 el)).size (Nat.le_refl _) ((bytesRow s (grownCap w s.size 0 el)).size, (bytesRow s (grownCap w s.size 0 el)).size + 1)
   have hvals : repL ν (fun b => if b = w.drew.heap.size then (bytesRow s (grownCap w s.size 0 el)).size else K b) (w.drew.alloc (.cells (bytesRow s (grownCap w s.size 0 el)) el ((bytesRow s (grownCap w s.size 0 el)).size, (bytesRow s (grownCap w s.size 0 el)).size + 1))) (bytesHV s) (s.data.toList.map fun b => .int .u8 b.toNat) := by
     unfold bytesHV
     generalize s.data.toList = l
     induction l with
     | nil => simp [repL]
     | cons b l ih =>
       simp only [List.map_cons, repL, byteHV, rep]
       exact ⟨_, _, rfl, rfl, ih⟩
   have hsz : (bytesHV s).length = s.size := by simp only [bytesHV, List.length_map, Array.length_toList]; rfl
   have hge := grownCap_ge w s.size 0 el
   obtain ⟨hR1, hR⟩ := hR
   have hrun : (execOp a.eval o).run P w = .ok (.value (.slice (some ⟨w.heap.size, 0, none⟩) s.size (grownCap w s.size 0 el))) (w.drew.alloc (.cells (bytesRow s (grownCap w s.size 0 el)) el ((bytesRow s (grownCap w s.size 0 el)).size, (bytesRow s (grownCap w s.size 0 el)).size + 1))) := by
     simp only [execOp, ho, e1, Sem.run_bind, hr, Result.andThen_ok, Sem.run_pure]
   refine ⟨_, _, _, .sl .no 1 (bytesHV s), hrun, (Ext.draw w K H _ (Nat.le_succ _)).trans x1, x2, ?_, hR⟩
   simp only [rep]
   refine ⟨some ⟨w.heap.size, 0, none⟩, grownCap w s.size 0 el, _, by rw [hsz], by rw [hsz]; exact hge, grownCap_le_maxLen w _ 0 el (by simp only [maxLen]; omega), trivial, ?_, ?_, hvals, .inr ⟨w.heap.size, 0, rfl, ?_, ?_⟩⟩
   · rw [List.all_eq_true]
     intro e he
     simp only [bytesHV, List.mem_map] at he
     obtain ⟨b, _, rfl⟩ := he; rfl
   · intro e he
     simp only [bytesHV, List.mem_map] at he
     obtain ⟨b, _, rfl⟩ := he; rfl
   · rw [hsz]
     have : w.drew.heap.size = w.heap.size := rfl
     simp [bytesRow, this]
   · intro j v hj
     have hc := cellsAt_block (w := w.drew.alloc (.cells (bytesRow s (grownCap w s.size 0 el)) el ((bytesRow s (grownCap w s.size 0 el)).size, (bytesRow s (grownCap w s.size 0 el)).size + 1))) (heap_alloc_new w.drew _)
     refine hc j v ?_
     have hfl : flat (s.data.toList.map fun b => Value.int .u8 b.toNat) = s.data.toList.map fun b => Value.int .u8 b.toNat := by
       generalize s.data.toList = l
       induction l with
       | nil => rfl
       | cons b l ih => simp only [flat, List.map_cons, List.flatMap_cons] at ih ⊢; rw [ih]; rfl
     rw [hfl] at hj
     simp only [bytesRow, Array.toList_append, Array.toList_map]
     rw [List.getElem?_append_left (by exact (List.getElem?_eq_some_iff.1 hj).1)]
     exact hj
 all_goals exact hR.elim
theorem nd_cap (hst : St D ν w0 K0 H0 N e H a w K μ) {c x t x'} (ho : o.op = .call c) (hc : c.callee = .builtin .cap) (hargs : c.args.toList = [x]) (hts : c.argTypes.toList = [t])
   (hT : (Sm.elemOf P t).isSome = true) (hx : okOpd ν x x' = true) {hs} (hh : e.hvs [x'] = some hs) {R : HV → Prop} (hR : ndK .cap hs H R) : NdRun P ν K H a w o R := by
 obtain ⟨z, hz, rfl⟩ := hvs_one hh
 have e1 := hv_sound hst hx hz
 have ha := arr1 hargs
 have ht := arr1 hts
 obtain ⟨el, hel⟩ := Option.isSome_iff_exists.1 hT
 have hu := elemOf_under hel
 have base : ∀ A n cap, a.eval x = .slice A n cap → (execOp a.eval o).run P w = .ok (.value (.int .i64 cap)) w := by
   intro A n cap hs
   simp [execOp, ho, resolve, hc, ha, ht, invoke, builtin, hs, Builtin.cap_, run_underlying hu, goInt]
 unfold ndK at hR
 split at hR
 all_goals first | (rename_i h _; cases h; done) | skip
 · rename_i A n cap _ hl
   simp only [List.cons.injEq, and_true] at hl; subst hl
   simp only [rep] at e1
   exact ⟨_, w, K, .v (.int .i64 cap), base _ _ _ e1, Ext.refl _ _ _, hst.hs, by simp [rep], hR⟩
 · rename_i tk sz es _ hl
   simp only [List.cons.injEq, and_true] at hl; subst hl
   simp only [rep] at e1
   obtain ⟨A, cap, vals, g1, g2, g3, _⟩ := e1
   exact ⟨_, w, K, .v (.int .i64 cap), base _ _ _ g1, Ext.refl _ _ _, hst.hs, by simp [rep], hR cap g2 g3⟩
 all_goals exact hR.elim
theorem isExt_fn {n : Nat} {name origin : String} (h : isExt P n name origin = true) : ∃ f, P.funcs[n]? = some f ∧ f.name = name ∧ f.origin = origin ∧ f.body.isNone = true := by
 unfold isExt at h
 split at h
 · rename_i f hf
   simp only [Bool.and_eq_true, decide_eq_true_eq] at h
   exact ⟨f, hf, h.1.1, h.1.2, h.2⟩
 · cases h
theorem find_ixb {fn : Func} (hn : fn.name = "internal/bytealg.IndexByteString") (ho : fn.origin = "") : Extern.find fn = some Extern.BytealgIndexByte.indexByte ∧ Extern.findNext fn = none := by
 unfold Extern.find Extern.findNext
 rw [hn, ho]
 constructor
 · have h1 : Extern.allGenericRows.lookup "internal/bytealg.IndexByteString" = none := by kernel_rfl
   have h2 : Extern.allTypedRows.lookup "internal/bytealg.IndexByteString" = none := by kernel_rfl
   have h3 : Extern.allRows.lookup "internal/bytealg.IndexByteString" = some Extern.BytealgIndexByte.indexByte := by kernel_rfl
   simp only [h1, h2, h3]; rfl
 · have h1 : Extern.allNextRows.lookup "internal/bytealg.IndexByteString" = none := by kernel_rfl
   have h2 : Extern.allNextRows.lookup "" = none := by kernel_rfl
   simp only [h1, h2]; rfl
theorem find_cntb {fn : Func} (hn : fn.name = "internal/bytealg.CountString") (ho : fn.origin = "") : Extern.find fn = some Extern.BytealgCount.count ∧ Extern.findNext fn = none := by
 unfold Extern.find Extern.findNext
 rw [hn, ho]
 constructor
 · have h1 : Extern.allGenericRows.lookup "internal/bytealg.CountString" = none := by kernel_rfl
   have h2 : Extern.allTypedRows.lookup "internal/bytealg.CountString" = none := by kernel_rfl
   have h3 : Extern.allRows.lookup "internal/bytealg.CountString" = some Extern.BytealgCount.count := by kernel_rfl
   simp only [h1, h2, h3]; rfl
 · have h1 : Extern.allNextRows.lookup "internal/bytealg.CountString" = none := by kernel_rfl
   have h2 : Extern.allNextRows.lookup "" = none := by kernel_rfl
   simp only [h1, h2]; rfl
theorem hvs_two {x y : Opd} {hs : List HV} (hh : e.hvs [x, y] = some hs) : ∃ z1 z2, e.hv x = some z1 ∧ e.hv y = some z2 ∧ hs = [z1, z2] := by
 simp only [Env.hvs] at hh
 split at hh
 · rename_i z zs h1 h2
   split at h2
   · rename_i z' zs' h3 h4
     simp only [Option.some.injEq] at h4 h2 hh
     subst h4 h2 hh
     exact ⟨z, z', h1, h3, rfl⟩
   · cases h2
 · cases hh
theorem nd_ixb (hst : St D ν w0 K0 H0 N e H a w K μ) {c : Call} {n x y x' y'} (ho : o.op = .call c) (hc : c.callee = .value (.func n)) (hargs : c.args.toList = [x, y]) (hf : isExt P n "internal/bytealg.IndexByteString" "" = true)
   (hx : okOpd ν x x' = true) (hy : okOpd ν y y' = true) {hs} (hh : e.hvs [x', y'] = some hs) {R : HV → Prop} (hR : ndK .ixb hs H R) : NdRun P ν K H a w o R := by
 obtain ⟨z1, z2, h1, h2, rfl⟩ := hvs_two hh
 have e1 := hv_sound hst hx h1
 have e2 := hv_sound hst hy h2
 have ha := arr2 hargs
 obtain ⟨fn, f1, f2, f3, f4⟩ := isExt_fn hf
 obtain ⟨g1, g2⟩ := find_ixb f2 f3
 unfold ndK at hR
 split at hR
 all_goals first | (rename_i h _; cases h; done) | skip
 · rename_i s cc _ hl
   simp only [List.cons.injEq, and_true] at hl
   obtain ⟨rfl, rfl⟩ := hl
   simp only [rep] at e1 e2
   have hr := run_callFunc_extern (P := P) f1 (by rw [f2]; decide) f4 g2 g1 #[.string s, .int .u8 cc] w
   rw [Lib.run_indexByteString] at hr
   have hrun : (execOp a.eval o).run P w = .ok (.value (.int .i64 (Lib.indexByte s.data.toList cc.toNat.toUInt8))) w := by
     simp only [Result.andThen] at hr
     have hfn : a.eval (.func n) = .func (.func n) #[] #[] := rfl
     simp [execOp, ho, resolve, hc, ha, hfn, Deferred.ofValue, invoke, e1, e2, hr]
   exact ⟨_, w, K, .v (.int .i64 (Lib.indexByte s.data.toList cc.toNat.toUInt8)), hrun, Ext.refl _ _ _, hst.hs, by simp [rep], hR⟩
 all_goals exact hR.elim
theorem nd_cntb (hst : St D ν w0 K0 H0 N e H a w K μ) {c : Call} {n x y x' y'} (ho : o.op = .call c) (hc : c.callee = .value (.func n)) (hargs : c.args.toList = [x, y]) (hf : isExt P n "internal/bytealg.CountString" "" = true)
   (hx : okOpd ν x x' = true) (hy : okOpd ν y y' = true) {hs} (hh : e.hvs [x', y'] = some hs) {R : HV → Prop} (hR : ndK .cntb hs H R) : NdRun P ν K H a w o R := by
 obtain ⟨z1, z2, h1, h2, rfl⟩ := hvs_two hh
 have e1 := hv_sound hst hx h1
 have e2 := hv_sound hst hy h2
 have ha := arr2 hargs
 obtain ⟨fn, f1, f2, f3, f4⟩ := isExt_fn hf
 obtain ⟨g1, g2⟩ := find_cntb f2 f3
 unfold ndK at hR
 split at hR
 all_goals first | (rename_i h _; cases h; done) | skip
 · rename_i s cc _ hl
   simp only [List.cons.injEq, and_true] at hl
   obtain ⟨rfl, rfl⟩ := hl
   simp only [rep] at e1 e2
   have hr := run_callFunc_extern (P := P) f1 (by rw [f2]; decide) f4 g2 g1 #[.string s, .int .u8 cc] w
   rw [Lib.run_countString] at hr
   have hrun : (execOp a.eval o).run P w = .ok (.value (.int .i64 ((Lib.countByte s.data.toList cc.toNat.toUInt8 : Nat) : Int))) w := by
     simp only [Result.andThen] at hr
     have hfn : a.eval (.func n) = .func (.func n) #[] #[] := rfl
     simp [execOp, ho, resolve, hc, ha, hfn, Deferred.ofValue, invoke, e1, e2, hr]
   exact ⟨_, w, K, .v (.int .i64 ((Lib.countByte s.data.toList cc.toNat.toUInt8 : Nat) : Int)), hrun, Ext.refl _ _ _, hst.hs, by simp [rep], hR⟩
 all_goals exact hR.elim
theorem VS.of {e1 : Env} {H1 : Heap} (h : e1.le e) (k : H1.sub H) : VS e H e1 H1 := fun _ _ _ _ _ _ _ _ ⟨K, μ, hst⟩ => ⟨K, μ, (hst.le h).sub k⟩
theorem VS.sub {H1 : Heap} (k : H1.sub H) : VS e H e H1 := fun _ _ _ _ _ _ _ _ ⟨K, μ, hst⟩ => ⟨K, μ, hst.sub k⟩
theorem VS.le {e1 : Env} (h : e1.le e) : VS e H e1 H := fun _ _ _ _ _ _ _ _ ⟨K, μ, hst⟩ => ⟨K, μ, hst.le h⟩
theorem st_nd (hst : St D ν w0 K0 H0 N e H a w K μ) {f : NdOp} {xs : List Opd} (hk : chkNd P ν o.op f xs = true) {Kc : EV → Env → Heap → Prop} (hs : (SOp.nd f xs).step (Spec P ν) e H Kc)
   {next : Act → World → Prop} {Q} (hK : Next' D ν w0 K0 H0 N a o.dst Kc next) : o.upon P a next Q ((execOp a.eval o).run P w) := by
 simp only [SOp.step] at hs
 split at hs
 · rename_i zs hz
   have key : NdRun P ν K H a w o (fun h => Kc (.h h) e H) := by
     unfold chkNd at hk
     split at hk
     · rename_i ho
       split at hk
       · rename_i hc ha ht
         simp only [Bool.and_eq_true] at hk
         exact nd_cap hst ho hc ha ht hk.1 hk.2 hz hs
       · cases hk
     · rename_i ho
       split at hk
       · rename_i hc ha
         simp only [Bool.and_eq_true] at hk
         exact nd_ixb hst ho hc ha hk.1.1 hk.1.2 hk.2 hz hs
       · cases hk
     · rename_i ho
       split at hk
       · rename_i hc ha
         simp only [Bool.and_eq_true] at hk
         exact nd_cntb hst ho hc ha hk.1.1 hk.1.2 hk.2 hz hs
       · cases hk
     · rename_i ho
       simp only [Bool.and_eq_true] at hk
       exact nd_b2s hst ho hk.1.1 hk.1.2 hk.2 hz hs
     · rename_i ho
       simp only [Bool.and_eq_true] at hk
       exact nd_s2b hst ho hk.1.1 hk.1.2 hk.2 hz hs
     · rename_i ho
       simp only [Bool.and_eq_true, decide_eq_true_eq] at hk
       obtain ⟨⟨⟨k1, k2⟩, k3⟩, k4⟩ := hk
       subst k1
       exact nd_isnil hst ho k2 k3 k4 hz hs
     · cases hk
   obtain ⟨u, w', K', h, h1, h2, h3, h4, h5⟩ := key
   rw [h1]
   apply upon_value
   exact hK _ _ _ h5 _ _ _ _ (hst.step h2 h3) h4 trivial
 · exact hs.elim
end
end Sm
