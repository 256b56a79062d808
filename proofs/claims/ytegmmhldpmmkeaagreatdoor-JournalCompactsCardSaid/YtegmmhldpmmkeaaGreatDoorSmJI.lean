/-
  J26,J27,J28,J29
-/
import Derived.Test.YtegmmhldpmmkeaaGreatDoorSmJG
set_option linter.unusedVariables false
set_option linter.unusedSimpArgs false
set_option maxRecDepth 10000
set_option maxHeartbeats 4000000
namespace Sm
open Go
def KJ (H : Heap) (a b : Nat) (j : Jn) : Prop := H a = some (.obj [ptr b, .sl .no 36 (j.s.parts.map partE), I j.s.next, I j.n, B j.dead])
theorem KJ.fr0 {H X : Heap} {a b : Nat} {j : Jn} (h : KJ H a b j) (f : Fr [] H X) : KJ X a b j := f.get (by simp) h
attribute [local irreducible] csem rsem dsem seqK blockK normK finK DK RK JK BR G3 resK Spec Tok Fr CV
theorem contE_spec (L : Linked code) (g : Nat) (caps : List HV) (f : Ent → Bool) (tk : Tk) (l : List Ent) (hl : l.length ≤ 1048576) (H : Heap) (hf : ∀ p ∈ l, ∀ H' K, Fr [] H H' → (∀ H'', Fr [] H' H'' → K (B (f p)) H'') → Spec L.P L.ν g (encE p :: caps) H' K) (K : HV → Heap → Prop) (hk : ∀ H', Fr [] H H' → K (B (l.any f)) H') :
   Spec L.P L.ν 429 [.sl tk 3 (l.map encE), .fn g caps] H K := by
 refine go_spec L code429 rfl ?_
 repeat (refine gr trivial ?_)
 (apply r_call; (focus rfl))
 refine idxE_spec L g caps f tk l hl H hf _ fun X fX => ?_
 repeat (refine gr trivial ?_)
 refine resK_some ?_
 have := hk X fX
 rw [← firstIdx_ge] at this
 exact this
theorem jtidy1_spec (L : Linked code) (x : Ent) (H : Heap) (K : HV → Heap → Prop) (hk : K (B (x.path == freshP)) H) : Spec L.P L.ν 430 [encE x] H K := by
 refine go_spec L code430 rfl ?_
 repeat (refine gr trivial ?_)
 refine r_box (v := encE x) (cs := cE x) rfl rfl rfl rfl rfl ?_
 repeat (refine gr trivial ?_)
 exact resK_some hk
theorem jtidy_spec (L : Linked code) (C : Cl L) (b : Nat) (h : Hd) (d : Dk) (n m : Nat) (hw : d.WF n m) (hn : n < 1048576) (hm : m ≤ 140737488355328) (H : Heap) (hD : KD H b h d) (K : HV → Heap → Prop) (hk : ∀ Y h', KD Y b h' (tidyD d).1 → Own H Y (h.bs b) (h'.bs b) → K (I (tidyD d).2) Y) : Spec L.P L.ν 398 [ptr b] H K := by
 have hl := dlist_len hw
 refine go_spec L code398 rfl ?_
 unfold tidyD at hk
 repeat (refine gr trivial ?_)
 (apply r_call; (focus rfl))
 refine dlistF_spec L C b h d n m hw hn hm H hD _ fun X fX => ?_
 have hX := hD.fr0 fX
 repeat (refine gr trivial ?_)
 (apply r_call; (focus rfl))
 refine contE_spec L 430 [] (fun e => e.path == freshP) .no d.list (by omega) X (fun p hp Y K' fY hK' => jtidy1_spec L p Y K' (hK' Y (Fr.refl _ _))) _ fun Y fY => ?_
 have hY := hX.fr0 fY
 repeat (refine gr trivial ?_)
 cases c1 : d.list.any (fun e => e.path == freshP)
 · rw [c1] at hk
   repeat (refine gr trivial ?_)
   exact resK_some (hk Y h hY (Own.of _ (fX.trans fY)))
 · rw [c1] at hk
   repeat (refine gr trivial ?_)
   (apply r_call; (focus rfl))
   refine dremove_spec L b h d freshP n m hw hn (by decide) Y hY _ fun Z h' hZ oZ => ?_
   repeat (refine gr trivial ?_)
   exact resK_some (hk Z h' hZ ((Own.of _ (fX.trans fY)).trans oZ))
theorem jalive_spec (L : Linked code) (a b : Nat) (j : Jn) (H : Heap) (hJ : KJ H a b j) (K : HV → Heap → Prop) (hk : K (I (bif j.dead then 16 else 0)) H) : Spec L.P L.ν 404 [ptr a] H K := by
 unfold KJ at hJ
 refine go_spec L code404 rfl ?_
 repeat (refine gr trivial ?_)
 cases c1 : j.dead
 · rw [c1] at hk
   repeat (refine gr trivial ?_)
   exact resK_some hk
 · rw [c1] at hk
   repeat (refine gr trivial ?_)
   exact resK_some hk
theorem jsize_spec (L : Linked code) (a b : Nat) (j : Jn) (H : Heap) (hJ : KJ H a b j) (K : HV → Heap → Prop) (hk : K (I j.n) H) : Spec L.P L.ν 387 [ptr a] H K := by
 unfold KJ at hJ
 refine go_spec L code387 rfl ?_
 repeat (refine gr trivial ?_)
 exact resK_some hk
theorem jstate_spec (L : Linked code) (a b : Nat) (j : Jn) (hl : j.s.parts.length ≤ 1048576) (H : Heap) (hJ : KJ H a b j) (K : HV → Heap → Prop) (hk : ∀ X, Fr [] H X → K (stE j.s) X) : Spec L.P L.ν 380 [ptr a] H K := by
 refine Spec.give ?_
 unfold KJ at hJ
 refine go_spec L code380 rfl ?_
 repeat (refine gr trivial ?_)
 apply r_load (v := stE j.s); (focus rfl); (focus exact hJ); (focus rfl)
 repeat (refine gr trivial ?_)
 refine r_storeW (v := stE j.s) (cs' := stC j.s) rfl rfl rfl rfl rfl rfl rfl rfl ?_
 repeat (refine gr trivial ?_)
 (apply r_call; (focus rfl))
 refine cloneP_spec L .no j.s.parts hl H _ fun v X hO fX => ?_
 repeat (refine gr trivial ?_)
 refine r_storeb (cs' := [v, I j.s.next]) rfl hO.one hO.el rfl rfl rfl (by simp only [setL, hO.cel]; rfl) ?_
 repeat (refine gr trivial ?_)
 apply r_loadb (v := .ag [v, I j.s.next]); (focus rfl); (focus rfl); (focus rfl)
 repeat (refine gr trivial ?_)
 refine r_storeW (v := .ag [v, I j.s.next]) (cs' := [v, I j.s.next]) rfl rfl (hO.el2 _) rfl rfl rfl rfl rfl ?_
 repeat (refine gr trivial ?_)
 exact resK_some (hO.giveA fX fun Y fY => hk Y fY)
end Sm
namespace Sm
open Go
attribute [local irreducible] csem rsem dsem seqK blockK normK finK DK RK JK BR G3 resK Spec Tok Fr CV
theorem jopen_spec (L : Linked code) (C : Cl L) (b : Nat) (h : Hd) (d : Dk) (n m : Nat) (hw : d.WF n m) (hn : n + 10 < 1048576) (hm : m ≤ 900000) (H : Heap) (hD : KD H b h d) (K : HV → Heap → Prop)
   (hk : ∀ Y h', KD Y b h' (openD d).1 → Own H Y (h.bs b) (h'.bs b) → ((openD d).2.1 = none → K (.tu [nilP, I (openD d).2.2]) Y) ∧ ∀ j, (openD d).2.1 = some j → ∀ a, KJ Y a b j → Own H Y (h.bs b) (a :: h'.bs b) → a ∉ h'.bs b → K (.tu [ptr a, I (openD d).2.2]) Y) : Spec L.P L.ν 379 [ptr b] H K := by
 have w1 := tidy_wf hw
 refine go_spec L code379 rfl ?_
 unfold openD at hk
 repeat (refine gr trivial ?_)
 (apply r_call; (focus rfl))
 refine jtidy_spec L C b h d n m hw (by omega) (by omega) H hD _ fun X1 h1 hD1 o1 => ?_
 generalize tidyD d = t at *
 repeat (refine gr trivial ?_)
 cases c1 : t.2 != 0
 case true =>
   rw [c1] at hk
   repeat (refine gr trivial ?_)
   exact resK_some ((hk X1 h1 hD1 o1).1 rfl)
 rw [c1] at hk
 dsimp only [cond_false] at hk
 unfold openA mkD at hk
 have w2 := mk_wf w1
 unfold mkD at w2
 repeat (refine gr trivial ?_)
 (apply r_call; (focus rfl))
 refine dreadF_spec L b h1 t.1 mainP (n + 1) m w1 (by omega) X1 hD1 _ fun X2 f2 => ?_
 have hD2 := hD1.fr0 f2
 have hbl := read_len w1 mainP
 generalize t.1.read mainP = q at *
 generalize hu : (bif q.2 == 8 then t.1.put mainP false else (t.1, q.2)) = u at hk w2
 repeat (refine gs trivial ?_)
 refine c_join (Spec_SMono L) (fun (_ : Hd) => [(0, .h (ptr b)), (5, .h (.sl .no 1 (q.1.map U))), (6, .h (I u.2))]) (fun _ => []) (fun g Y => KD Y b g u.1 ∧ Own H Y (h.bs b) (g.bs b)) ?_ ?_
 · repeat (refine gs trivial ?_)
   cases c2 : q.2 == 8
   · rw [c2] at hu
     have e1 : u = (t.1, q.2) := hu.symm
     subst e1
     repeat (refine gs trivial ?_)
     refine j_n h1 ⟨hD2, o1.trans (Own.of _ f2)⟩ ?_
     (refine leM ?_ ?_ ?_ <;> (repeat refine leS trivial ?_) <;> exact leE)
   · rw [c2] at hu
     have e1 : u = t.1.put mainP false := hu.symm
     subst e1
     repeat (refine gr trivial ?_)
     (apply r_call; (focus rfl))
     refine dcreate_spec L b h1 t.1 mainP (n + 1) m w1 (by omega) (by decide) X2 hD2 _ fun Y g hY oY => ?_
     repeat (refine gr trivial ?_)
     refine j_n g ⟨hY, (o1.trans (Own.of _ f2)).trans oY⟩ ?_
     (refine leM ?_ ?_ ?_ <;> (repeat refine leS trivial ?_) <;> exact leE)
 rintro h2 X3 ⟨hD3, o3⟩
 repeat (refine gr trivial ?_)
 cases c3 : u.2 != 0
 case true =>
   rw [c3] at hk
   repeat (refine gr trivial ?_)
   exact resK_some ((hk X3 h2 hD3 o3).1 rfl)
 rw [c3] at hk
 dsimp only [cond_false] at hk
 unfold openC at hk
 have w3 := syncDirs_wf w2
 repeat (refine gr trivial ?_)
 (apply r_call; (focus rfl))
 refine dsyncdirs_spec L b h2 u.1 (n + 1 + 1) m w2 (by omega) X3 hD3 _ fun X4 h4 hD4 o4 => ?_
 have o4 := o3.trans o4
 generalize u.1.syncDirs = y at *
 repeat (refine gr trivial ?_)
 cases c4 : y.2 != 0
 case true =>
   rw [c4] at hk
   repeat (refine gr trivial ?_)
   exact resK_some ((hk X4 h4 hD4 o4).1 rfl)
 rw [c4] at hk
 dsimp only [cond_false] at hk
 unfold openE at hk
 have w4 := cutD_wf w3 q.1
 have hsl := scan_len firstR q.1
 have hsc := scan_chk q.1
 have hpl := playS_le (scan firstR q.1).1 z0
 repeat (refine gr trivial ?_)
 (apply r_call; (focus rfl))
 refine scanR_spec L _ q.1 (by omega) X4 _ fun X5 f5 => ?_
 repeat (refine gr trivial ?_)
 (apply r_call; (focus rfl))
 refine jplay_spec L _ (scan firstR q.1).1 (by omega) (fun r hr => by have := chkR_ok (hsc r hr); omega) X5 _ fun X6 f6 => ?_
 have hN : ((layR ((scan firstR q.1).1.take (playS z0 (scan firstR q.1).1).2.toNat)).length : Int) = openN q.1 := rfl
 generalize hp : playS z0 (scan firstR q.1).1 = p at *
 repeat (refine gr trivial ?_)
 refine r_storeW (v := stE p.1) (cs' := stC p.1) rfl rfl rfl rfl rfl rfl rfl rfl ?_
 repeat (refine gr trivial ?_)
 have hk0 : p.2 = ((p.2.toNat : Nat) : Int) := (Int.toNat_of_nonneg hpl.1).symm
 refine r_slcS (l := 0) (h := p.2.toNat) rfl rfl (show some p.2 = some ((p.2.toNat : Nat) : Int) by rw [← hk0]) (Nat.zero_le _) (by rw [List.length_map]; omega) fun tk' => ?_
 rw [show (((scan firstR q.1).1.map recE).drop 0).take (p.2.toNat - 0) = ((scan firstR q.1).1.take p.2.toNat).map recE by rw [List.drop_zero, Nat.sub_zero, List.map_take]]
 repeat (refine gr trivial ?_)
 apply r_loadb (v := stE p.1); (focus rfl); (focus rfl); (focus rfl)
 repeat (refine gr trivial ?_)
 (apply r_call; (focus rfl))
 refine jlay_spec L _ ((scan firstR q.1).1.take p.2.toNat) (by rw [List.length_take]; omega) (fun r hr => by have := chkR_ok (hsc r (List.mem_of_mem_take hr)); omega) X6 _ fun v X7 hO f7 => ?_
 repeat (refine gr trivial ?_)
 refine r_lenR rfl hO.rb ?_
 rw [hN]
 repeat (refine gr trivial ?_)
 refine r_calm (x := .h (.ag [ptr b, .sl .no 36 (p.1.parts.map partE), I p.1.next, I (openN q.1), B false])) rfl rfl ?_
 repeat (refine gr trivial ?_)
 refine r_boxX (v := .ag [ptr b, .sl .no 36 (p.1.parts.map partE), I p.1.next, I (openN q.1), B false]) (cs := [ptr b, .sl .no 36 (p.1.parts.map partE), I p.1.next, I (openN q.1), B false]) rfl rfl rfl rfl fun a X8 ha hX8 f8 s8 => ?_
 have f58 := f5.trans (f6.trans (f7.trans f8))
 have hD8 := hD4.fr0 f58
 have o8 : Own H X8 (h.bs b) (h4.bs b) := o4.trans (Own.of _ f58)
 have na : a ∉ h4.bs b := ((hD4.fr0 (f5.trans (f6.trans f7)))).new ha
 have oa : a ∈ h.bs b ∨ H a = none := by
   by_cases hm2 : a ∈ h.bs b
   · exact .inl hm2
   · cases hHa : H a with
     | none => exact .inr rfl
     | some r =>
       have := (o4.trans (Own.of _ (f5.trans (f6.trans f7)))).get hm2 hHa
       rw [ha] at this; cases this
 generalize hc : cutD q.1 y.1 = t2 at hk w4
 unfold cutD at hc
 repeat (refine gs trivial ?_)
 refine c_join (Spec_SMono L) (fun (_ : Hd) => [(0, .h (ptr b)), (13, .h (ptr a))]) (fun _ => []) (fun g Y => KD Y b g t2.1 ∧ Own H Y (h.bs b) (g.bs b) ∧ KJ Y a b ⟨p.1, openN q.1, false⟩ ∧ a ∉ g.bs b ∧ t2.2 = 0) ?_ ?_
 · repeat (refine gs trivial ?_)
   cases c5 : decide (openN q.1 < (q.1.length : Int))
   · rw [c5] at hc
     have e5 : t2 = (y.1, 0) := hc.symm
     subst e5
     repeat (refine gs trivial ?_)
     refine j_n h4 ⟨hD8, o8, hX8, na, rfl⟩ ?_
     (refine leM ?_ ?_ ?_ <;> (repeat refine leS trivial ?_) <;> exact leE)
   · rw [c5] at hc
     have e5 : t2 = y.1.cut mainP (openN q.1) := hc.symm
     subst e5
     repeat (refine gr trivial ?_)
     (apply r_call; (focus rfl))
     refine dcut_spec L b h4 y.1 mainP (openN q.1) (n + 1 + 1 + 1) m w3 (by omega) (by decide) X8 hD8 _ fun X9 h9 hD9 o9 => ?_
     generalize y.1.cut mainP (openN q.1) = t3 at *
     repeat (refine gr trivial ?_)
     cases c6 : t3.2 != 0
     · repeat (refine gr trivial ?_)
       refine j_n h9 ⟨hD9, o8.trans o9, o9.get na hX8, o9.apart na hX8, by simpa using c6⟩ ?_
       (refine leM ?_ ?_ ?_ <;> (repeat refine leS trivial ?_) <;> exact leE)
     · rw [c6] at hk
       repeat (refine gr trivial ?_)
       exact resK_some ((hk X9 h9 hD9 (o8.trans o9)).1 rfl)
 rintro h9 X9 ⟨hD9, o9, hJ9, na9, e9⟩
 rw [e9] at hk
 rw [show ((0 : Int) != 0) = false from rfl] at hk
 repeat (refine gr trivial ?_)
 (apply r_call; (focus rfl))
 refine dsync_spec L b h9 t2.1 mainP (n + 1 + 1 + 1 + 1) m w4 (by omega) (by decide) X9 hD9 _ fun X10 h10 hD10 o10 => ?_
 generalize t2.1.sync mainP = z at *
 repeat (refine gr trivial ?_)
 cases c7 : z.2 != 0
 case true =>
   rw [c7] at hk
   repeat (refine gr trivial ?_)
   exact resK_some ((hk X10 h10 hD10 (o9.trans o10)).1 rfl)
 rw [c7] at hk
 repeat (refine gr trivial ?_)
 have oo := o9.trans o10
 exact resK_some ((hk X10 h10 hD10 oo).2 _ rfl a (o10.get na9 hJ9) ⟨oo.fr, fun c hc => by
   rcases List.mem_cons.mp hc with rfl | hc
   · exact oa
   · exact oo.nw c hc⟩ (o10.apart na9 hJ9))
end Sm
namespace Sm
open Go
section
variable {C : Nat → SF} {S : SpecT} {fin : Env → Heap → Prop}
def FD (C : Nat → SF) (S : SpecT) (fin : Env → Heap → Prop) (b : SC) : SEx → Env → Heap → Prop := fun ex e' H' => match ex with
 | .normal => ∃ e1 H1, VS e' H' e1 H1 ∧ fsem C S fin b e1 H1
 | .ret => fin e' H'
 | .exit _ => False
theorem fsem_seq {a b : SC} {e : Env} {H : Heap} (h : csem S a e H (FD C S fin b)) : fsem C S fin (.seq a b) e H := h
theorem fd_n {b : SC} {e : Env} {H : Heap} (h : fsem C S fin b e H) : FD C S fin b .normal e H := ⟨e, H, VS.refl e H, h⟩
theorem fd_r {b : SC} {e : Env} {H : Heap} (h : fin e H) : FD C S fin b .ret e H := h
theorem fd_seq {a b : SC} {e : Env} {H : Heap} (h : csem S a e H (FD C S fin b)) : FD C S fin (.seq a b) .normal e H := fd_n (fsem_seq h)
def DR (C : Nat → SF) (S : SpecT) (fin : Env → Heap → Prop) (gd : Nat) (hs : List HV) : SEx → Env → Heap → Prop := fun ex e2 H2 => (ex = .normal ∨ ex = .ret) ∧ ∃ e3 H3, VS e2 H2 e3 H3 ∧ (C gd).sem S hs H3 fun _ H4 => fin e3 H4
def DF (C : Nat → SF) (S : SpecT) (fin : Env → Heap → Prop) (x : Opd) (ys : List Opd) (gd : Nat) (rest : SC) : Env → Heap → Prop := fun e' H' => match e'.hv x, e'.hvs ys with
   | some (.fn g caps), some hs => g = gd ∧ (C gd).body.isD = false ∧ csem S rest e' H' (DR C S fin gd (hs ++ caps))
   | _, _ => False
theorem fd_dfr {ops : List SOper} {x : Opd} {ys : List Opd} {gd : Nat} {rest : SC} {e : Env} {H : Heap} (h : rsem S ops e H (DF C S fin x ys gd rest)) : FD C S fin (.dfr ops x ys gd rest) .normal e H := fd_n h
theorem df_i {x : Opd} {ys : List Opd} {gd : Nat} {rest : SC} {e : Env} {H : Heap} {caps hs : List HV} (hx : e.hv x = some (.fn gd caps)) (hy : e.hvs ys = some hs) (hd : (C gd).body.isD = false) (h : csem S rest e H (DR C S fin gd (hs ++ caps))) : DF C S fin x ys gd rest e H := by
 unfold DF
 rw [hx, hy]
 exact ⟨rfl, hd, h⟩
theorem dr_r {gd : Nat} {hs : List HV} {e : Env} {H : Heap} (h : (C gd).sem S hs H fun _ H4 => fin e H4) : DR C S fin gd hs .ret e H := ⟨.inr rfl, e, H, VS.refl e H, h⟩
theorem fin_res {res : List SRes} {Q : HV → Heap → Prop} {e : Env} {H : Heap} {hs : List HV} (hr : resList e H res = some hs) (h : resK (some hs) H Q) : finS res Q e H := by
 refine ⟨e, H, VS.refl e H, ?_⟩
 rw [hr]; exact h
theorem res_cell {sl : List (Nat × EV)} {bx : List (Nat × List HV)} {H : Heap} {s p : Nat} {v : HV} (hx : (M sl bx).opd (.s s) = some (.h (ptr p))) (hH : H p = some (.obj [v])) : resList (M sl bx) H [.cell s false 1] = some [v] := by
 simp only [resList, SRes.val]
 rw [load_heap hx hH (show loadv false 1 0 [v] = some v from rfl)]
end
theorem go_specD {code : Nat → SF} (L : Linked code) {g np N : Nat} {res : List SRes} {a b : SC} {args : List HV} {R : HV → Heap → Prop} {H : Heap} (hc : code g = ⟨np, N, res, .seq a b⟩) (hn : args.length = np) (hd : (SC.seq a b).isD = true)
   (h : csem (Spec L.P L.ν) a (M (argL 0 args) []) H (FD code (Spec L.P L.ν) (finS res R) b)) : Spec L.P L.ν g args H R := by
 refine spec_ofD L ?_ (by rw [hc]; exact hd)
 rw [hc]
 exact ⟨hn, by rw [initE_M]; exact h⟩
theorem go_sem {code : Nat → SF} {S : SpecT} {g np N : Nat} {res : List SRes} {body : SC} {args : List HV} {R : HV → Heap → Prop} {H : Heap} (hc : code g = ⟨np, N, res, body⟩) (hn : args.length = np)
   (h : csem S body (M (argL 0 args) []) H (finK res R)) : (code g).sem S args H R := by
 rw [hc, sem_eq]
 exact ⟨hn, by rw [initE_M]; exact h⟩
attribute [local irreducible] csem rsem dsem fsem FD DR DF finS seqK blockK normK finK DK RK JK BR G3 resK Spec Tok Fr CV
theorem jlayF_spec (L : Linked code) (tk : Tk) (l : List Rc) (hl : l.length ≤ 1000000) (hp : ∀ r ∈ l, r.path.length ≤ 1048576) : PureF L 401 [.sl tk 37 (l.map recE)] (.sl .no 1 ((layR l).map U)) := by
 intro H K hk
 refine Spec.give ?_
 exact jlay_spec L tk l hl hp H _ fun v X hO fX => hO.give fX fun Y fY => hk Y fY
theorem add2_spec (L : Linked code) (a b p2 p9 : Nat) (j : Jn) (h : Hd) (d : Dk) (x : List UInt8) (n m : Nat) (hw : d.WF n m) (hn : n < 1048576) (hnm : n * m ≤ 1152921504606846976) (hm : m + x.length ≤ 140737488355328) (H : Heap) (hD : KD H b h d) (hJ : KJ H a b j) (h2 : H p2 = some (.obj [ptr a])) (h9 : H p9 = some (.obj [.sl .no 1 (x.map U)]))
   (K : HV → Heap → Prop) (hk : ∀ Y h', KD Y b h' (d.append mainP x).1 → Own H Y (h.bs b) (h'.bs b) → K (I (d.append mainP x).2) Y) : Spec L.P L.ν 420 [ptr p2, ptr p9] H K := by
 unfold KJ at hJ
 refine go_spec L code420 rfl ?_
 repeat (refine gr trivial ?_)
 (apply r_call; (focus rfl))
 refine dappend_spec L b h d mainP _ x n m hw hn hnm hm (by decide) H hD (.inl ⟨_, rfl⟩) (by simp [fvb]) _ fun Y h' hY oY => ?_
 repeat (refine gr trivial ?_)
 exact resK_some (hk Y h' hY oY)
theorem add3_spec (L : Linked code) (a b p2 : Nat) (j : Jn) (h : Hd) (d : Dk) (n m : Nat) (hw : d.WF n m) (hn : n < 1048576) (H : Heap) (hD : KD H b h d) (hJ : KJ H a b j) (h2 : H p2 = some (.obj [ptr a]))
   (K : HV → Heap → Prop) (hk : ∀ Y h', KD Y b h' (d.sync mainP).1 → Own H Y (h.bs b) (h'.bs b) → K (I (d.sync mainP).2) Y) : Spec L.P L.ν 421 [ptr p2] H K := by
 unfold KJ at hJ
 refine go_spec L code421 rfl ?_
 repeat (refine gr trivial ?_)
 (apply r_call; (focus rfl))
 refine dsync_spec L b h d mainP n m hw hn (by decide) H hD _ fun Y h' hY oY => ?_
 repeat (refine gr trivial ?_)
 exact resK_some (hk Y h' hY oY)
theorem Own.cons {H X : Heap} {bs bs' : List Nat} (o : Own H X bs bs') (a : Nat) : Own H X (a :: bs) (a :: bs') := ⟨o.fr.mono (by intro c hc; exact List.mem_cons_of_mem _ hc), fun c hc => by
 rcases List.mem_cons.mp hc with rfl | hc
 · exact .inl (by simp)
 · exact (o.nw c hc).imp (List.mem_cons_of_mem _) id⟩
theorem Own.at {H X : Heap} {a : Nat} (bs : List Nat) (f : Fr [a] H X) : Own H X (a :: bs) (a :: bs) := Own.set f (by simp)
theorem CV_fn (L : Linked code) {g : Nat} {caps xs : List HV} {H : Heap} {K : HV → Heap → Prop} (h : Spec L.P L.ν g (xs ++ caps) H K) : CV L (.fn g caps) xs H K := by
 unfold CV
 exact h
theorem add_steps (L : Linked code) (a b p2 p9 : Nat) (j : Jn) (h : Hd) (d : Dk) (x : List UInt8) (n m : Nat) (hw : d.WF n m) (hn : n + 1 < 1048576) (hnm : n * m ≤ 1152921504606846976) (hm : m + x.length ≤ 140737488355328) (H : Heap) (hD : KD H b h d) (hJ : KJ H a b j) (h2 : H p2 = some (.obj [ptr a])) (h9 : H p9 = some (.obj [.sl .no 1 (x.map U)])) (na : a ∉ h.bs b) (n2 : p2 ∉ h.bs b)
   (K : HV → Heap → Prop) (hk : ∀ Y h', KD Y b h' (addS d x).1 → Own H Y (h.bs b) (h'.bs b) → K (I (addS d x).2) Y) : StepsOK L K [.fn 420 [ptr p2, ptr p9], .fn 421 [ptr p2]] H := by
 have w1 := append_wf hw mainP x
 unfold addS at hk
 refine CV_fn L (add2_spec L a b p2 p9 j h d x n m hw (by omega) hnm hm H hD hJ h2 h9 _ fun Y h' hY oY => ⟨_, rfl, fun he => ?_, fun he => ?_⟩)
 · rw [show ((d.append mainP x).2 != 0) = true by simpa using he] at hk
   exact hk Y h' hY oY
 · rw [show ((d.append mainP x).2 != 0) = false by simpa using he] at hk
   refine CV_fn L (add3_spec L a b p2 j h' _ (n + 1) _ w1 (by omega) Y hY (oY.get na hJ) (oY.get n2 h2) _ fun Z h3 hZ oZ => ⟨_, rfl, fun he2 => ?_, fun he2 => ?_⟩)
   · exact hk Z h3 hZ (oY.trans oZ)
   · have := hk Z h3 hZ (oY.trans oZ)
     simp only [cond_false, he2] at this
     exact this
theorem add1_sem (L : Linked code) (a b p4 p2 p7 p9 : Nat) (e : Int) (nx : Sta) (x : List UInt8) (j : Jn) (h : Hd) (d : Dk) (n m : Nat) (hw : d.WF n m) (hn : n < 1048576) (H : Heap) (hD : KD H b h d) (hJ : KJ H a b j) (na : a ∉ h.bs b) (h4 : H p4 = some (.obj [I e])) (h2 : H p2 = some (.obj [ptr a])) (h7 : H p7 = some (.obj (stC nx))) (h9 : H p9 = some (.obj [.sl .no 1 (x.map U)])) (n2 : p2 ∉ h.bs b) (hj : 0 ≤ j.n ∧ j.n ≤ 1099511627776) (hx : x.length ≤ 1099511627776)
   (R : HV → Heap → Prop) (hk1 : e ≠ 0 → ∀ Y h', KD Y b h' (d.cut mainP j.n).1 → Own H Y (a :: h.bs b) (a :: h'.bs b) → KJ Y a b ⟨j.s, j.n, (d.cut mainP j.n).2 != 0⟩ → a ∉ h'.bs b → R (.tu []) Y)
   (hk0 : e = 0 → ∀ Y, KD Y b h d → Own H Y (a :: h.bs b) (a :: h.bs b) → KJ Y a b ⟨nx, j.n + x.length, j.dead⟩ → R (.tu []) Y) : (code 419).sem (Spec L.P L.ν) [ptr p4, ptr p2, ptr p7, ptr p9] H R := by
 have hJ0 : KJ H a b j := hJ
 unfold KJ at hJ
 refine go_sem code419 rfl ?_
 repeat (refine gr trivial ?_)
 cases c1 : e != 0
 · have c1 : e = 0 := by simpa using c1
   subst c1
   repeat (refine gr trivial ?_)
   apply r_load (v := stE nx); (focus rfl); (focus exact h7); (focus rfl)
   repeat (refine gr trivial ?_)
   refine r_storeX (cs' := [ptr b, .sl .no 36 (nx.parts.map partE), I nx.next, I j.n, B j.dead]) rfl rfl rfl rfl hJ rfl rfl fun X hX fX => ?_
   repeat (refine gr trivial ?_)
   refine r_storeX (cs' := [ptr b, .sl .no 36 (nx.parts.map partE), I nx.next, I (j.n + x.length), B j.dead]) rfl rfl rfl rfl hX rfl rfl fun Y hY fY => ?_
   repeat (refine gr trivial ?_)
   exact resK_some (hk0 rfl Y ((hD.fr fX (by intro c hc hm; rw [List.mem_singleton] at hm; subst hm; exact na hc)).fr fY (by intro c hc hm; rw [List.mem_singleton] at hm; subst hm; exact na hc)) ((Own.at _ fX).trans (Own.at _ fY)) hY)
 · have c1 : e ≠ 0 := by simpa using c1
   repeat (refine gr trivial ?_)
   (apply r_call; (focus rfl))
   refine dcut_spec L b h d mainP j.n n m hw hn (by decide) H hD _ fun Y h' hY oY => ?_
   have hJY : Y a = _ := oY.get na hJ
   have h2Y := oY.get n2 h2
   generalize d.cut mainP j.n = t at *
   repeat (refine gr trivial ?_)
   refine r_storeX (cs' := [ptr b, .sl .no 36 (j.s.parts.map partE), I j.s.next, I j.n, B (t.2 != 0)]) rfl rfl rfl rfl hJY rfl rfl fun X hX fX => ?_
   have na' := oY.apart na hJ
   repeat (refine gr trivial ?_)
   exact resK_some (hk1 c1 X h' (hY.fr fX (by intro c hc hm; rw [List.mem_singleton] at hm; subst hm; exact na' hc)) ((oY.cons a).trans (Own.at _ fX)) hX na')
theorem jadd_spec (L : Linked code) (a b : Nat) (r : Rc) (j : Jn) (h : Hd) (d : Dk) (n m : Nat) (hw : d.WF n m) (hn : n + 10 < 1048576) (hnm : n * m ≤ 1152921504606846976) (hm : m ≤ 1048576) (H : Heap) (hD : KD H b h d) (hJ : KJ H a b j) (na : a ∉ h.bs b) (hj : 0 ≤ j.n ∧ j.n ≤ 1099511627776) (hl : j.s.parts.length ≤ 1048576) (hp : r.path.length ≤ 1048576)
   (K : HV → Heap → Prop) (hk : ∀ Y h', KD Y b h' (addD d j r).1 → Own H Y (a :: h.bs b) (a :: h'.bs b) → KJ Y a b (addD d j r).2.1 → a ∉ h'.bs b → K (I (addD d j r).2.2) Y) : Spec L.P L.ν 386 [ptr a, recE r] H K := by
 unfold addD at hk
 refine go_specD L code386 rfl rfl ?_
 repeat (refine gr trivial ?_)
 refine r_boxX (v := ptr a) (cs := [ptr a]) rfl rfl rfl rfl fun p2 X1 e2 k2 f1 s1 => ?_
 repeat (refine gr trivial ?_)
 refine r_box (v := recE r) (cs := rcC r) rfl rfl rfl rfl rfl ?_
 repeat (refine gr trivial ?_)
 refine r_allocF fun p4 X2 e4 k4 f2 => ?_
 repeat (refine gr trivial ?_)
 have f12 := f1.trans f2
 have k22 : X2 p2 = some (.obj [ptr a]) := f2.get (by simp) k2
 have hJ2 := hJ.fr0 f12
 have hD2 := hD.fr0 f12
 refine fd_seq ?_
 repeat (refine gr trivial ?_)
 (apply r_call; (focus rfl))
 refine jalive_spec L a b j X2 hJ2 _ ?_
 cases c1 : j.dead
 case true =>
   rw [c1] at hk
   dsimp only [cond_true]
   repeat (refine gr trivial ?_)
   refine r_storeX (cs' := [I 16]) rfl rfl rfl rfl k4 rfl rfl fun X3 k43 f3 => ?_
   repeat (refine gr trivial ?_)
   have fH3 : Fr [] H X3 := f12.own (f1.of_none e4) f3
   exact fd_r (fin_res (res_cell rfl k43) (resK_some (hk X3 h (hD.fr0 fH3) ((Own.of _ fH3).cons a) (hJ.fr0 fH3) na)))
 rw [c1] at hk
 dsimp only [cond_false] at hk ⊢
 repeat (refine gr trivial ?_)
 refine fd_seq ?_
 repeat (refine gr trivial ?_)
 apply r_loadb (v := recE r); (focus rfl); (focus rfl); (focus rfl)
 (apply r_call; (focus rfl))
 refine checkR_spec L r hp X2 _ fun X3 f3 => ?_
 have k43 : X3 p4 = some (.obj [I 0]) := f3.get (by simp) k4
 have k23 : X3 p2 = some (.obj [ptr a]) := f3.get (by simp) k22
 have hJ3 := hJ2.fr0 f3
 have hD3 := hD2.fr0 f3
 have e43 : H p4 = none := f1.of_none e4
 repeat (refine gr trivial ?_)
 cases c2 : chkR r != 0
 case true =>
   rw [c2] at hk
   repeat (refine gr trivial ?_)
   refine r_storeX (cs' := [I (chkR r)]) rfl rfl rfl rfl k43 rfl rfl fun X4 k44 f4 => ?_
   repeat (refine gr trivial ?_)
   have fH4 : Fr [] H X4 := (f12.trans f3).own e43 f4
   exact fd_r (fin_res (res_cell rfl k44) (resK_some (hk X4 h (hD.fr0 fH4) ((Own.of _ fH4).cons a) (hJ.fr0 fH4) na)))
 rw [c2] at hk
 dsimp only [cond_false] at hk
 have c2 : chkR r = 0 := by simpa using c2
 obtain ⟨q1, q2, q3, q4, q5, q6, q7, q8⟩ := chkR_ok c2
 have hJ3' : X3 a = _ := hJ3
 repeat (refine gr trivial ?_)
 refine fd_seq ?_
 repeat (refine gr trivial ?_)
 apply r_load (v := stE j.s); (focus rfl); (focus exact hJ3); (focus rfl)
 repeat (refine gr trivial ?_)
 apply r_loadb (v := recE r); (focus rfl); (focus rfl); (focus rfl)
 repeat (refine gr trivial ?_)
 (apply r_call; (focus rfl))
 refine jstep_spec L j.s r hl q2 q3 X3 _ fun X4 f4 => ?_
 have k44 : X4 p4 = some (.obj [I 0]) := f4.get (by simp) k43
 have k24 : X4 p2 = some (.obj [ptr a]) := f4.get (by simp) k23
 have hJ4 := hJ3.fr0 f4
 have hJ4' : X4 a = _ := hJ4
 have hD4 := hD3.fr0 f4
 generalize stepS j.s r = nx at *
 repeat (refine gr trivial ?_)
 refine r_allocF fun p7 X5 e7 k7 f5 => ?_
 repeat (refine gr trivial ?_)
 refine r_storeX (cs' := stC nx.1) rfl rfl rfl rfl k7 rfl rfl fun X6 k76 f6 => ?_
 have f56 : Fr [] X4 X6 := f5.own e7 f6
 have k46 : X6 p4 = some (.obj [I 0]) := f56.get (by simp) k44
 have k26 : X6 p2 = some (.obj [ptr a]) := f56.get (by simp) k24
 have hJ6 := hJ4.fr0 f56
 have hD6 := hD4.fr0 f56
 repeat (refine gr trivial ?_)
 cases c3 : nx.2
 case false =>
   rw [c3] at hk
   refine fd_seq ?_
   repeat (refine gr trivial ?_)
   refine r_storeX (cs' := [I 16]) rfl rfl rfl rfl k46 rfl rfl fun X7 k47 f7 => ?_
   repeat (refine gr trivial ?_)
   have fH7 : Fr [] H X7 := (f12.trans (f3.trans (f4.trans f56))).own e43 f7
   exact fd_r (fin_res (res_cell rfl k47) (resK_some (hk X7 h (hD.fr0 fH7) ((Own.of _ fH7).cons a) (hJ.fr0 fH7) na)))
 rw [c3] at hk
 refine fd_seq ?_
 repeat (refine gr trivial ?_)
 refine fd_seq ?_
 repeat (refine gr trivial ?_)
 apply r_loadb (v := recE r); (focus rfl); (focus rfl); (focus rfl)
 repeat (refine gr trivial ?_)
 (apply r_call; (focus rfl))
 refine jlayF_spec L .full [r] (by simp) (fun x hx => by rw [List.mem_singleton] at hx; subst hx; exact hp) X6 _ fun X7 f7 => ?_
 have hxl := recPut_len r
 have hxl2 : (layR [r]).length ≤ 1100 := by
   rw [layR]
   cases (recPut r).2 != 0
   · simp only [cond_false, layR, List.append_nil]; exact hxl
   · simp
 generalize hx : layR [r] = x at *
 repeat (refine gr trivial ?_)
 refine r_allocF fun p9 X8 e9 k9 f8 => ?_
 repeat (refine gr trivial ?_)
 refine r_storeX (cs' := [.sl .no 1 (x.map U)]) rfl rfl rfl rfl k9 rfl rfl fun X9 k99 f9 => ?_
 have f79 : Fr [] X6 X9 := f7.trans (f8.own e9 f9)
 have k49 : X9 p4 = some (.obj [I 0]) := f79.get (by simp) k46
 have k29 : X9 p2 = some (.obj [ptr a]) := f79.get (by simp) k26
 have k79 : X9 p7 = some (.obj (stC nx.1)) := f79.get (by simp) k76
 have hJ9 := hJ6.fr0 f79
 have hD9 := hD6.fr0 f79
 have fH9 : Fr [] H X9 := f12.trans (f3.trans (f4.trans (f56.trans f79)))
 repeat (refine gr trivial ?_)
 refine fd_dfr ?_
 repeat (refine gr trivial ?_)
 refine df_i rfl rfl (by rw [code419]; rfl) ?_
 repeat (refine gr trivial ?_)
 have n2 : p2 ∉ h.bs b := hD.new e2
 have n4 : p4 ∉ h.bs b := hD.new e43
 have n7 : p7 ∉ h.bs b := hD4.new e7
 have n9 : p9 ∉ h.bs b := (hD6.fr0 f7).new e9
 have ne : ∀ {X : Heap} {p q : Nat} {v : Res}, X p = some v → X q = none → p ≠ q := fun h1 h2 e => by rw [e, h2] at h1; cases h1
 have na4 : a ≠ p4 := ne hJ e43
 have n24 : p2 ≠ p4 := ne k2 e4
 have n74 : p4 ≠ p7 := ne k44 e7
 have n94 : p4 ≠ p9 := ne (f7.get (by simp) k46) e9
 (apply r_call; (focus rfl))
 refine jsteps_spec L _ (by simp) (fun f hf => by
   simp only [List.mem_cons, List.not_mem_nil, or_false] at hf
   rcases hf with rfl | rfl <;> rfl) X9 _ (add_steps L a b p2 p9 j h d x n m hw (by omega) hnm (by omega) X9 hD9 hJ9 k29 k99 na n2 _ fun Y h' hY oY => ?_)
 have w2 : (addS d x).1.WF (n + 2) (m + x.length) := by
   unfold addS
   cases (d.append mainP x).2 != 0
   · exact sync_wf (append_wf hw mainP x) mainP
   · exact (append_wf hw mainP x).mono (by omega) (by omega)
 generalize addS d x = t at *
 have k4Y := oY.get n4 k49
 repeat (refine gr trivial ?_)
 refine r_storeX (cs' := [I t.2]) rfl rfl rfl rfl k4Y rfl rfl fun Z k4Z fZ => ?_
 have oZ : Own H Z (h.bs b) (h'.bs b) := ((Own.of _ fH9).trans oY).tail fZ (by intro c hc; rw [List.mem_singleton] at hc; subst hc; exact e43)
 have q4 : p4 ∉ h'.bs b := oY.apart n4 k49
 have qa : a ∉ h'.bs b := oY.apart na hJ9
 have gt : ∀ {p : Nat} {v : Res}, p ∉ h.bs b → p ≠ p4 → X9 p = some v → Z p = some v := fun h1 h2 h3 => fZ.get (by simpa using h2) (oY.get h1 h3)
 repeat (refine gr trivial ?_)
 refine dr_r (add1_sem L a b p4 p2 p7 p9 t.2 nx.1 x j h' t.1 (n + 2) (m + x.length) w2 (by omega) Z (hY.fr fZ (by intro c hc hm; rw [List.mem_singleton] at hm; subst hm; exact q4 hc)) (gt na na4 hJ9) qa k4Z (gt n2 n24 k29) (gt n7 n74.symm k79) (gt n9 n94.symm k99) (oY.apart n2 k29) hj (by omega) _ (fun he W h3 hW oW hJW naW => ?_) (fun he W hW oW hJW => ?_))
 · rw [show (t.2 != 0) = true by simpa using he] at hk
   have k4W : W p4 = some (.obj [I t.2]) := oW.get (by simp only [List.mem_cons, not_or]; exact ⟨na4.symm, q4⟩) k4Z
   exact fin_res (res_cell rfl k4W) (resK_some (hk W h3 hW ((oZ.cons a).trans oW) hJW naW))
 · rw [show (t.2 != 0) = false by simpa using he] at hk
   have k4W : W p4 = some (.obj [I t.2]) := oW.get (by simp only [List.mem_cons, not_or]; exact ⟨na4.symm, q4⟩) k4Z
   rw [c1] at hJW
   have := hk W h' hW ((oZ.cons a).trans oW) hJW qa
   rw [he] at k4W
   exact fin_res (res_cell rfl k4W) (resK_some this)
end Sm
namespace Sm
open Go
theorem imgR_len : ∀ (l : List Pt) (n : Int), (imgR n l).length ≤ 2 * l.length
 | [], n => by simp [imgR]
 | p :: l, n => by
   have := imgR_len l n
   rw [imgR_cons]
   cases decide (0 < p.off) <;> simp only [cond_true, cond_false, List.length_cons, List.length_append, List.length_nil] <;> omega
theorem imageS_len (s : Sta) : (imageS s).length ≤ 2 * s.parts.length + 1 := by
 have := imgR_len s.parts 0
 unfold imageS
 cases decide (nxtI 0 s.parts < s.next) <;> simp only [cond_true, cond_false, List.length_cons, List.length_append, List.length_nil] <;> omega
theorem layR_len : ∀ (l : List Rc), (layR l).length ≤ 1100 * l.length
 | [] => by simp [layR]
 | r :: l => by
   have h1 := recPut_len r
   have h2 := layR_len l
   rw [layR]
   cases (recPut r).2 != 0
   · simp only [cond_false, List.length_append, List.length_cons]; omega
   · simp
theorem img_len {s : Sta} (h : StOk s) : (layR (imageS s)).length ≤ 150000 := by
 have h1 := layR_len (imageS s)
 have h2 := imageS_len s
 have := h.len
 omega
theorem fr1_wf {d : Dk} {n m : Nat} (h : d.WF n m) : (fr1 d).1.WF (n + 2) m := by
 unfold fr1
 cases (tidyD d).2 != 0
 · exact put_wf (tidy_wf h) _ _
 · exact (tidy_wf h).mono (by omega) (Nat.le_refl _)
theorem fr2_wf {d : Dk} {n m : Nat} (h : d.WF n m) (x : List UInt8) : (fr2 d x).1.WF (n + 3) (m + x.length) := by
 unfold fr2
 cases (fr1 d).2 != 0
 · exact append_wf (fr1_wf h) _ _
 · exact (fr1_wf h).mono (by omega) (by omega)
theorem fr3_wf {d : Dk} {n m : Nat} (h : d.WF n m) (x : List UInt8) : (fr3 d x).1.WF (n + 4) (m + x.length) := by
 unfold fr3
 cases (fr2 d x).2 != 0
 · exact sync_wf (fr2_wf h x) _
 · exact (fr2_wf h x).mono (by omega) (Nat.le_refl _)
theorem fr4_wf {d : Dk} {n m : Nat} (h : d.WF n m) (x : List UInt8) : (fr4 d x).1.WF (n + 5) (m + x.length) := by
 unfold fr4
 cases (fr3 d x).2 != 0
 · exact rename_wf (fr3_wf h x) _ _
 · exact (fr3_wf h x).mono (by omega) (Nat.le_refl _)
attribute [local irreducible] csem rsem dsem fsem FD DR DF finS seqK blockK normK finK DK RK JK BR G3 resK Spec Tok Fr CV
section
variable (L : Linked code) (a b p1 : Nat) (j : Jn) (h : Hd) (d : Dk) (n m : Nat) (hw : d.WF n m) (hn : n < 1048576) (H : Heap) (hD : KD H b h d) (hJ : KJ H a b j) (h1 : H p1 = some (.obj [ptr a])) (K : HV → Heap → Prop)
include hw hn hD hJ h1
theorem cp1_spec (C : Cl L) (hm : m ≤ 140737488355328) (hk : ∀ Y h', KD Y b h' (tidyD d).1 → Own H Y (h.bs b) (h'.bs b) → K (I (tidyD d).2) Y) : Spec L.P L.ν 406 [ptr p1] H K := by
 unfold KJ at hJ
 refine go_spec L code406 rfl ?_
 repeat (refine gr trivial ?_)
 (apply r_call; (focus rfl))
 refine jtidy_spec L C b h d n m hw hn hm H hD _ fun Y h' hY oY => ?_
 repeat (refine gr trivial ?_)
 exact resK_some (hk Y h' hY oY)
theorem cp2_spec (hk : ∀ Y h', KD Y b h' (d.put freshP false).1 → Own H Y (h.bs b) (h'.bs b) → K (I (d.put freshP false).2) Y) : Spec L.P L.ν 407 [ptr p1] H K := by
 unfold KJ at hJ
 refine go_spec L code407 rfl ?_
 repeat (refine gr trivial ?_)
 (apply r_call; (focus rfl))
 refine dcreate_spec L b h d freshP n m hw hn (by decide) H hD _ fun Y h' hY oY => ?_
 repeat (refine gr trivial ?_)
 exact resK_some (hk Y h' hY oY)
theorem cp3_spec (p4 : Nat) (x : List UInt8) (hnm : n * m ≤ 1152921504606846976) (hm : m + x.length ≤ 140737488355328) (h4 : H p4 = some (.obj [.sl .no 1 (x.map U)])) (hk : ∀ Y h', KD Y b h' (d.append freshP x).1 → Own H Y (h.bs b) (h'.bs b) → K (I (d.append freshP x).2) Y) : Spec L.P L.ν 408 [ptr p1, ptr p4] H K := by
 unfold KJ at hJ
 refine go_spec L code408 rfl ?_
 repeat (refine gr trivial ?_)
 (apply r_call; (focus rfl))
 refine dappend_spec L b h d freshP _ x n m hw hn hnm hm (by decide) H hD (.inl ⟨_, rfl⟩) (by simp [fvb]) _ fun Y h' hY oY => ?_
 repeat (refine gr trivial ?_)
 exact resK_some (hk Y h' hY oY)
theorem cp4_spec (hk : ∀ Y h', KD Y b h' (d.sync freshP).1 → Own H Y (h.bs b) (h'.bs b) → K (I (d.sync freshP).2) Y) : Spec L.P L.ν 409 [ptr p1] H K := by
 unfold KJ at hJ
 refine go_spec L code409 rfl ?_
 repeat (refine gr trivial ?_)
 (apply r_call; (focus rfl))
 refine dsync_spec L b h d freshP n m hw hn (by decide) H hD _ fun Y h' hY oY => ?_
 repeat (refine gr trivial ?_)
 exact resK_some (hk Y h' hY oY)
theorem cp5_spec (hk : ∀ Y h', KD Y b h' (d.rename freshP mainP).1 → Own H Y (h.bs b) (h'.bs b) → K (I (d.rename freshP mainP).2) Y) : Spec L.P L.ν 410 [ptr p1] H K := by
 unfold KJ at hJ
 refine go_spec L code410 rfl ?_
 repeat (refine gr trivial ?_)
 (apply r_call; (focus rfl))
 refine drenames_spec L b h d freshP mainP n m hw hn (by decide) (by decide) H hD _ fun Y h' hY oY => ?_
 repeat (refine gr trivial ?_)
 exact resK_some (hk Y h' hY oY)
end
theorem comp_steps (L : Linked code) (C : Cl L) (a b p1 p4 : Nat) (j : Jn) (h : Hd) (d : Dk) (x : List UInt8) (n m : Nat) (hw : d.WF n m) (hn : n + 5 < 1048576) (hnm : (n + 2) * m ≤ 1152921504606846976) (hm : m + x.length ≤ 140737488355328) (H : Heap) (hD : KD H b h d) (hJ : KJ H a b j) (h1 : H p1 = some (.obj [ptr a])) (h4 : H p4 = some (.obj [.sl .no 1 (x.map U)])) (na : a ∉ h.bs b) (n1 : p1 ∉ h.bs b) (n4 : p4 ∉ h.bs b)
   (K : HV → Heap → Prop) (hk : ∀ Y h', KD Y b h' (fr4 d x).1 → Own H Y (h.bs b) (h'.bs b) → K (I (fr4 d x).2) Y) : StepsOK L K [.fn 406 [ptr p1], .fn 407 [ptr p1], .fn 408 [ptr p1, ptr p4], .fn 409 [ptr p1], .fn 410 [ptr p1]] H := by
 have w1 := tidy_wf hw
 have w2 := fr1_wf hw
 have w3 := fr2_wf hw x
 have w4 := fr3_wf hw x
 unfold fr4 at hk
 refine CV_fn L (cp1_spec L a b p1 j h d n m hw (by omega) H hD hJ h1 _ C (by omega) fun Y1 h1' hY1 o1 => ⟨_, rfl, fun he => ?_, fun he => ?_⟩)
 · have e1 : fr1 d = tidyD d := by unfold fr1; rw [show ((tidyD d).2 != 0) = true by simpa using he]; rfl
   have e2 : fr2 d x = tidyD d := by unfold fr2; rw [e1, show ((tidyD d).2 != 0) = true by simpa using he]; rfl
   have e3 : fr3 d x = tidyD d := by unfold fr3; rw [e2, show ((tidyD d).2 != 0) = true by simpa using he]; rfl
   rw [e3, show ((tidyD d).2 != 0) = true by simpa using he] at hk
   exact hk Y1 h1' hY1 o1
 have e1 : fr1 d = (tidyD d).1.put freshP false := by unfold fr1; rw [show ((tidyD d).2 != 0) = false by simpa using he]; rfl
 refine CV_fn L (cp2_spec L a b p1 j h1' (tidyD d).1 (n + 1) m w1 (by omega) Y1 hY1 (o1.get na hJ) (o1.get n1 h1) _ fun Y2 h2' hY2 o2 => ⟨_, rfl, fun he => ?_, fun he => ?_⟩)
 · rw [← e1] at he hY2 ⊢
   have e2 : fr2 d x = fr1 d := by unfold fr2; rw [show ((fr1 d).2 != 0) = true by simpa using he]; rfl
   have e3 : fr3 d x = fr1 d := by unfold fr3; rw [e2, show ((fr1 d).2 != 0) = true by simpa using he]; rfl
   rw [e3, show ((fr1 d).2 != 0) = true by simpa using he] at hk
   exact hk Y2 h2' hY2 (o1.trans o2)
 rw [← e1] at he hY2
 have o2 := o1.trans o2
 have e2 : fr2 d x = (fr1 d).1.append freshP x := by unfold fr2; rw [show ((fr1 d).2 != 0) = false by simpa using he]; rfl
 refine CV_fn L (cp3_spec L a b p1 j h2' (fr1 d).1 (n + 2) m w2 (by omega) Y2 hY2 (o2.get na hJ) (o2.get n1 h1) _ p4 x hnm hm (o2.get n4 h4) fun Y3 h3' hY3 o3 => ⟨_, rfl, fun he => ?_, fun he => ?_⟩)
 · rw [← e2] at he hY3 ⊢
   have e3 : fr3 d x = fr2 d x := by unfold fr3; rw [show ((fr2 d x).2 != 0) = true by simpa using he]; rfl
   rw [e3, show ((fr2 d x).2 != 0) = true by simpa using he] at hk
   exact hk Y3 h3' hY3 (o2.trans o3)
 rw [← e2] at he hY3
 have o3 := o2.trans o3
 have e3 : fr3 d x = (fr2 d x).1.sync freshP := by unfold fr3; rw [show ((fr2 d x).2 != 0) = false by simpa using he]; rfl
 refine CV_fn L (cp4_spec L a b p1 j h3' (fr2 d x).1 (n + 3) _ w3 (by omega) Y3 hY3 (o3.get na hJ) (o3.get n1 h1) _ fun Y4 h4' hY4 o4 => ⟨_, rfl, fun he => ?_, fun he => ?_⟩)
 · rw [← e3] at he hY4 ⊢
   rw [show ((fr3 d x).2 != 0) = true by simpa using he] at hk
   exact hk Y4 h4' hY4 (o3.trans o4)
 rw [← e3] at he hY4
 have o4 := o3.trans o4
 rw [show ((fr3 d x).2 != 0) = false by simpa using he] at hk
 refine CV_fn L (cp5_spec L a b p1 j h4' (fr3 d x).1 (n + 4) _ w4 (by omega) Y4 hY4 (o4.get na hJ) (o4.get n1 h1) _ fun Y5 h5' hY5 o5 => ⟨_, rfl, fun he => ?_, fun he => ?_⟩)
 · exact hk Y5 h5' hY5 (o4.trans o5)
 · have := hk Y5 h5' hY5 (o4.trans o5)
   simp only [cond_false, he] at this
   exact this
theorem jcomp_spec (L : Linked code) (C : Cl L) (a b : Nat) (j : Jn) (h : Hd) (d : Dk) (n m : Nat) (hw : d.WF n m) (hn : n + 10 < 1048576) (hnm : (n + 2) * m ≤ 1152921504606846976) (hm : m ≤ 1048576) (H : Heap) (hD : KD H b h d) (hJ : KJ H a b j) (na : a ∉ h.bs b) (hs : StOk j.s)
   (K : HV → Heap → Prop) (hk : ∀ Y h', KD Y b h' (compD d j).1 → Own H Y (a :: h.bs b) (a :: h'.bs b) → KJ Y a b (compD d j).2.1 → a ∉ h'.bs b → K (I (compD d j).2.2) Y) : Spec L.P L.ν 382 [ptr a] H K := by
 have hlen := hs.len
 have hnx := hs.nx
 have hxl := img_len hs
 unfold compD at hk
 refine go_spec L code382 rfl ?_
 repeat (refine gr trivial ?_)
 refine r_boxX (v := ptr a) (cs := [ptr a]) rfl rfl rfl rfl fun p1 X1 e1 k1 f1 s1 => ?_
 have hJ1 := hJ.fr0 f1
 have hD1 := hD.fr0 f1
 repeat (refine gr trivial ?_)
 (apply r_call; (focus rfl))
 refine jalive_spec L a b j X1 hJ1 _ ?_
 cases c1 : j.dead
 case true =>
   rw [c1] at hk
   dsimp only [cond_true] at hk ⊢
   repeat (refine gr trivial ?_)
   exact resK_some (hk X1 h hD1 ((Own.of _ f1).cons a) hJ1 na)
 rw [c1] at hk
 dsimp only [cond_false] at hk ⊢
 have hJ1' : X1 a = _ := hJ1
 repeat (refine gr trivial ?_)
 apply r_load (v := stE j.s); (focus rfl); (focus exact hJ1); (focus rfl)
 repeat (refine gr trivial ?_)
 (apply r_call; (focus rfl))
 refine jimage_spec L j.s (by omega) (fun p hp => by have := hs.lt p hp; omega) (by omega) X1 _ fun X2 f2 => ?_
 repeat (refine gr trivial ?_)
 (apply r_call; (focus rfl))
 refine jlayF_spec L .no (imageS j.s) (by have := imageS_len j.s; omega) (fun r hr => by have := (chkR_ok (image_ok hs r hr).1).2.2.2.1; omega) X2 _ fun X3 f3 => ?_
 generalize layR (imageS j.s) = x at *
 repeat (refine gr trivial ?_)
 refine r_allocF fun p4 X4 e4 k4 f4 => ?_
 repeat (refine gr trivial ?_)
 refine r_storeX (cs' := [.sl .no 1 (x.map U)]) rfl rfl rfl rfl k4 rfl rfl fun X5 k45 f5 => ?_
 have f15 : Fr [] X1 X5 := f2.trans (f3.trans (f4.own e4 f5))
 have k15 : X5 p1 = some (.obj [ptr a]) := f15.get (by simp) k1
 have hJ5 := hJ1.fr0 f15
 have hD5 := hD1.fr0 f15
 have n1 : p1 ∉ h.bs b := hD.new e1
 have n4 : p4 ∉ h.bs b := (hD1.fr0 (f2.trans f3)).new e4
 have fH5 := f1.trans f15
 repeat (refine gr trivial ?_)
 (apply r_call; (focus rfl))
 refine jsteps_spec L _ (by simp) (fun f hf => by
   simp only [List.mem_cons, List.not_mem_nil, or_false] at hf
   rcases hf with rfl | rfl | rfl | rfl | rfl <;> rfl) X5 _ (comp_steps L C a b p1 p4 j h d x n m hw (by omega) hnm (by omega) X5 hD5 hJ5 k15 k45 na n1 n4 _ fun Y h' hY oY => ?_)
 have w5 := fr4_wf hw x
 have hJY : KJ Y a b j := oY.get na hJ5
 have hJY' : Y a = _ := hJY
 have k1Y := oY.get n1 k15
 have k4Y := oY.get n4 k45
 have naY := oY.apart na hJ5
 have oHY : Own H Y (h.bs b) (h'.bs b) := (Own.of _ fH5).trans oY
 generalize fr4 d x = t at *
 repeat (refine gr trivial ?_)
 cases c2 : t.2 != 0
 case true =>
   rw [c2] at hk
   repeat (refine gr trivial ?_)
   (apply r_call; (focus rfl))
   refine dremove_spec L b h' t.1 freshP (n + 5) _ w5 (by omega) (by decide) Y hY _ fun Z h2 hZ oZ => ?_
   repeat (refine gr trivial ?_)
   exact resK_some (hk Z h2 hZ ((oHY.trans oZ).cons a) (oZ.get naY hJY) (oZ.apart naY hJY))
 rw [c2] at hk
 dsimp only [cond_false] at hk
 repeat (refine gr trivial ?_)
 refine r_storeX (cs' := [ptr b, .sl .no 36 (j.s.parts.map partE), I j.s.next, I x.length, B j.dead]) rfl rfl rfl rfl hJY rfl rfl fun Z hZ fZ => ?_
 have hDZ : KD Z b h' t.1 := hY.fr fZ (by intro c hc hm; rw [List.mem_singleton] at hm; subst hm; exact naY hc)
 have k1Z : Z p1 = some (.obj [ptr a]) := fZ.get (by
   simp only [List.mem_singleton]
   intro e; subst e
   rw [show H p1 = _ from hJ] at e1; cases e1) k1Y
 repeat (refine gr trivial ?_)
 (apply r_call; (focus rfl))
 refine dsyncdirs_spec L b h' t.1 (n + 5) _ w5 (by omega) Z hDZ _ fun W h2 hW oW => ?_
 have n1Y := oY.apart n1 k15
 have k1W := oW.get n1Y k1Z
 have hJW := oW.get naY hZ
 have naW := oW.apart naY hZ
 generalize t.1.syncDirs = y at *
 repeat (refine gr trivial ?_)
 refine r_storeX (cs' := [ptr b, .sl .no 36 (j.s.parts.map partE), I j.s.next, I x.length, B (y.2 != 0)]) rfl rfl rfl rfl hJW rfl rfl fun V hV fV => ?_
 repeat (refine gr trivial ?_)
 have hDV : KD V b h2 y.1 := hW.fr fV (by intro c hc hm; rw [List.mem_singleton] at hm; subst hm; exact naW hc)
 exact resK_some (hk V h2 hDV ((oHY.cons a).trans ((Own.at _ fZ).trans ((oW.cons a).trans (Own.at _ fV)))) hV naW)
end Sm
