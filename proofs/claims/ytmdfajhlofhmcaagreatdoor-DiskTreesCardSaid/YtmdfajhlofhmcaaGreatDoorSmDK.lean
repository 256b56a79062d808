/-
  A layer of one's own: texts D33.
-/
import Derived.Test.YtmdfajhlofhmcaaGreatDoorSmDJ
import Derived.Test.YtmdfajhlofhmcaaGreatDoorSmTE
import Derived.Test.YtmdfajhlofhmcaaGreatDoorSmLI
set_option linter.unusedVariables false
set_option linter.unusedSimpArgs false
set_option maxRecDepth 10000
set_option maxHeartbeats 2000000
namespace Sm
open Go
-- BASE smU
theorem smU : (∀ d : Dk, rkV d = .ag [I d.room, .sl .no 3 (d.sure.map rnV), .sl .no 2 (d.loose.map rcV), .sl .no 2 (d.f.map rfV), B d.down, I d.ops, I d.fails, B d.done, I d.wrong]) ∧ (∀ a : Ak, akV a = .ag [U a.kind, S a.p, S a.q, .sl .no 1 (a.b.map U), I a.n, B a.done]) ∧ (∀ e : Ent, encE e = .ag [S e.path, B e.dir, .sl .no 1 (e.data.map U)]) ∧ (∀ x : Eo, encO x = .ag [S x.e.path, B x.e.dir, x.v]) := ⟨fun _ => rfl, fun _ => rfl, fun _ => rfl, fun _ => rfl⟩
theorem r_b2sB {S' : SpecT} {sl : List (Nat × EV)} {bx : List (Nat × List HV)} {H : Heap} {K : Env → Heap → Prop} {os : List SOper} {d : Nat} {x : Opd} {v : HV} {l : List UInt8} (hx : (M sl bx).hv x = some v) (hv : BV H v l) (h : rsem S' os (M ((d, .h (S l)) :: sl) bx) H K) : rsem S' (⟨some d, .nd .b2s [x], none⟩ :: os) (M sl bx) H K := by
  rcases hv with ⟨tk, rfl⟩ | ⟨rfl, rfl⟩ | ⟨a, c, zs, rfl, ha⟩
  · exact r_b2s hx h
  · exact r_b2s0 hx h
  · refine r_nd1 (hs := [.v (.slice (some ⟨a, 0, none⟩) l.length c)]) (by simp [Env.hvs, hx]) (fun R hR => ?_) h
    simp only [ndK, ha]
    refine ⟨by simp, ⟨l.toArray⟩, ?_, hR⟩
    rw [List.drop_zero, List.take_append_of_le_length (by simp), List.take_of_length_le (by simp)]
    simp [bytesHV, byteHV]
theorem CB.vw {H : Heap} {v : HV} {l : List UInt8} (h : CB H v l) : VW H v (.sl .no 1 (l.map U)) := by
  rcases h with ⟨rfl, rfl⟩ | ⟨rfl, rfl⟩ | ⟨a, c, zs, rfl, h1, h2, h3, h4⟩
  · exact VW.of (Weak.nil' 1)
  · exact VW.of (Weak.drop _ _ _)
  · refine VW.fw h1 (FW.slice (sz := 1) (es := l.map U) ?_ ?_ (by simp) h2 h3 ?_ ?_)
    · rw [flat_U, List.take_append_of_le_length (by simp), List.take_of_length_le (by simp)]
    · simp
    · rw [List.all_eq_true]; intro x hx; obtain ⟨y, _, rfl⟩ := List.mem_map.mp hx; rfl
    · intro x hx; obtain ⟨y, _, rfl⟩ := List.mem_map.mp hx; rfl
theorem EB.vw {H X : Heap} {eos : List Eo} (h : EB H X eos) : VW X (.sl .no 3 (eos.map encO)) (.sl .no 3 ((eos.map Eo.e).map encE)) := by
  rw [List.map_map]
  refine VW.sl (VWL.map fun x hx => ?_) ?_ ?_
  · exact VW.ag (xs := cO x) (ys := [S x.e.path, B x.e.dir, .sl .no 1 (x.e.data.map U)]) ⟨VW.refl _ _, VW.refl _ _, (h x hx).1.vw, trivial⟩ rfl
  · rw [List.all_eq_true]; intro y hy; obtain ⟨x, _, rfl⟩ := List.mem_map.mp hy; rfl
  · intro y hy; obtain ⟨x, _, rfl⟩ := List.mem_map.mp hy; rfl
/-- Bytes that may be read and written. -/
def YB (X : Heap) (v : HV) : Prop := v = .v (.slice none 0 0) ∨ v = .sl .full 1 [] ∨ ∃ a n c cs, v = .v (.slice (some ⟨a, 0, none⟩) n c) ∧ X a = some (.obj cs) ∧ n ≤ cs.length ∧ n ≤ maxLen ∧ ∀ k, k < n → ∃ y, cs[k]? = some (U y)
theorem CB.yb {X : Heap} {v : HV} {l : List UInt8} (h : CB X v l) : YB X v := by
  rcases h with ⟨rfl, _⟩ | ⟨rfl, _⟩ | ⟨a, c, zs, rfl, h1, h2, h3, h4⟩
  · exact .inl rfl
  · exact .inr (.inl rfl)
  · refine .inr (.inr ⟨a, _, c, _, rfl, h1, by simp, by omega, fun k hk => ⟨l[k], ?_⟩⟩)
    rw [List.getElem?_append_left (by simpa using hk)]; simp [hk]
theorem YB.set {X Y : Heap} {v : HV} {a i : Nat} {cs : List HV} {y : UInt8} (h : YB X v) (ha : X a = some (.obj cs)) (hy : Y a = some (.obj (cs.set i (U y)))) (hf : Fr [a] X Y) : YB Y v := by
  rcases h with h | h | ⟨b, n, c, ds, rfl, h1, h2, h3, h4⟩
  · exact .inl h
  · exact .inr (.inl h)
  · by_cases hab : b = a
    · subst hab
      rw [ha] at h1; cases h1
      refine .inr (.inr ⟨b, n, c, _, rfl, hy, by simpa using h2, h3, fun k hk => ?_⟩)
      rw [List.getElem?_set]
      split
      · exact ⟨y, by rw [if_pos (by omega)]⟩
      · exact h4 k hk
    · exact .inr (.inr ⟨b, n, c, ds, rfl, hf.get (by simpa using hab) h1, h2, h3, h4⟩)
/-- How many. -/
def ybN : HV → Nat
  | .v (.slice _ n _) => n
  | _ => 0
theorem r_lenY {S' : SpecT} {sl : List (Nat × EV)} {bx : List (Nat × List HV)} {H : Heap} {K : Env → Heap → Prop} {os : List SOper} {d : Nat} {x : Opd} {v : HV} (hx : (M sl bx).hv x = some v) (hv : YB H v) (h : rsem S' os (M ((d, .h (I (ybN v))) :: sl) bx) H K) : rsem S' (⟨some d, .len x, none⟩ :: os) (M sl bx) H K := by
  refine r_calm rfl ?_ h
  rcases hv with rfl | rfl | ⟨a, n, c, cs, rfl, _⟩
  · simp only [SOp.ev, hx]; rfl
  · simp only [SOp.ev, hx]; rfl
  · simp only [SOp.ev, hx]; rfl
theorem setL1 {cs : List HV} {i : Nat} {v : HV} (h : v.cells = [v]) : setL cs (0 + (i : Int).toNat * 1) v.cells = cs.set i v := by
  rw [h, show 0 + (i : Int).toNat * 1 = i by simp]; rfl
attribute [local irreducible] csem rsem dsem seqK blockK normK finK DK RK JK BR G3 resK Spec Tok Fr CV GA YB

theorem dsame_spec (L : Linked code) (C : Cl L) (b : Nat) (h : Hd) (d : Dk) (p : List UInt8) (n m : Nat) (hw : d.WF n m) (hn : n < 1048000) (hnm : n * m ≤ 1152921504606846976) (hm : m ≤ 140737488355328) (hp : p.length ≤ 1048576) (H : Heap) (hD : KD H b h d)
    (K) (hk : ∀ X, Fr [] H X → K (B true) X) : Spec L.P L.ν 306 [ptr b, rkV d, S p] H K := by
  have hop := hw.op
  refine go_spec L code306 rfl ?_
  repeat (refine gk smU ?_)
  (apply r_call; (focus rfl))
  refine dread_spec L b h d p n m hw hm H hD _ fun v X1 hC f1 hnv => ?_
  have hD1 := hD.fr0 f1
  repeat (refine gk smU ?_)
  (apply r_call; (focus rfl))
  refine rread_spec L d p n m hw hn X1 _ fun X2 f2 => ?_
  have hD2 := hD1.fr0 f2
  repeat (refine gk smU ?_)
  (apply r_call; (focus rfl))
  refine dlist_spec L C b h d n m hw (by omega) hm X2 hD2 _ fun eos X3 hM hE _ f3 => ?_
  have hD3 := hD2.fr0 f3
  have f03 := (f1.trans f2).trans f3
  have hC3 := hC.fr (f2.trans f3) (by simp)
  repeat (refine gk smU ?_)
  refine r_b2sB rfl (CB_bv hC3) ?_
  repeat (refine gk smU ?_)
  rw [beq_self_eq_true]
  repeat (refine gk smU ?_)
  (apply r_call; (focus rfl))
  refine rlist_spec L d n m hw hn hm X3 _ fun X4 f4 => ?_
  have hE4 := hE.fr f4 (by simp)
  repeat (refine gk smU ?_)
  (apply r_call; (focus rfl))
  have hlen : (eos.map Eo.e).length ≤ 1048576 := by rw [hM, list_eq]; split; · simp
                                                    have := hw.now_len; simp; omega
  refine Spec.borrow (args' := [.sl .no 3 ((eos.map Eo.e).map encE), .sl .no 3 (d.list.map encE)]) ⟨hE4.vw, VW.refl _ _, trivial⟩ (rsame_spec L .no .no (eos.map Eo.e) d.list hlen noR _ rfl) ?_
  rw [hM, sameT_self]
  repeat (refine gk smU ?_)
  (apply r_call; (focus rfl))
  refine dused_spec L b h d n m hw hnm X4 (hD3.fr0 f4) _ fun X5 f5 => ?_
  repeat (refine gk smU ?_)
  (apply r_call; (focus rfl))
  refine rused_spec L d n m hw hn hnm X5 _ fun X6 f6 => ?_
  repeat (refine gk smU ?_)
  (apply r_call; (focus rfl))
  have f36 := (f4.trans f5).trans f6
  have hD6 := hD3.fr0 f36
  refine ddown_spec L b h d X6 hD6 _ ?_
  repeat (refine gk smU ?_)
  (apply r_call; (focus rfl))
  refine dops_spec L b h d X6 hD6 _ ?_
  repeat (refine gk smU ?_)
  (apply r_call; (focus rfl))
  refine dsafe_spec L b h d p n m hw X6 hD6 _ ?_
  repeat (refine gk smU ?_)
  (apply r_call; (focus rfl))
  refine rsafe_spec L d p n m hw hn X6 _ fun X7 f7 => ?_
  have f07 := (f03.trans f36).trans f7
  have hv7 : YB X7 v := ((hC3.fr f36 (by simp)).fr f7 (by simp)).yb
  have hE7 : ∀ x ∈ eos, YB X7 x.v := fun x hx => (((hE.fr f36 (by simp)).fr f7 (by simp)) x hx).1.yb
  have hnE : ∀ x ∈ eos, ∀ a ∈ fvb x.v, H a = none := fun x hx a ha => (f1.trans f2).of_none ((hE x hx).2 a ha)
  have hlen2 : eos.length ≤ 1048576 := by simpa using hlen
  clear hE hE4 hC hC3
  repeat (refine gk smU ?_)
  refine c_loop (Spec_SMono L) (fun (q : Nat) => [(7, .h v), (11, .h (.sl .no 3 (eos.map encO))), (12, .h (B true)), (13, .h (I q))]) (fun _ => [])
    (fun q X => q ≤ ybN v ∧ Fr [] H X ∧ YB X v ∧ ∀ x ∈ eos, YB X x.v) (fun q => ybN v - q) 0 ?_ ⟨by simp, f07, hv7, hE7⟩ ?_
  · (refine leM ?_ ?_ ?_ <;> (repeat refine leS trivial ?_) <;> exact leE)
  rintro q X ⟨hq1, hf, hyv, hye⟩
  repeat (refine gk smU ?_)
  refine r_lenY rfl hyv ?_
  repeat (refine gk smU ?_)
  (refine ct smU ?_ ?_ <;> intro hc)
  · have hq' : q < ybN v := by simpa using hc
    rcases (by unfold YB at hyv; exact hyv : v = .v (.slice none 0 0) ∨ v = .sl .full 1 [] ∨ ∃ a n c cs, v = .v (.slice (some ⟨a, 0, none⟩) n c) ∧ X a = some (.obj cs) ∧ n ≤ cs.length ∧ n ≤ maxLen ∧ ∀ k, k < n → ∃ y, cs[k]? = some (U y)) with rfl | rfl | ⟨a, n', c', cs, rfl, k1, k2, k3, k4⟩
    · exact absurd hq' (Nat.not_lt_zero _)
    · exact absurd hq' (Nat.not_lt_zero _)
    change q < n' at hq'
    have hmx : maxLen = 9223372036854775807 := rfl
    obtain ⟨y, hy⟩ := k4 q hq'
    have hld : loadv false 1 (0 + (q : Int).toNat * 1) cs = some (U y) := load_at (by rw [show 0 + (q : Int).toNat * 1 = q by simp]; exact hy)
    repeat (refine gk smU ?_)
    apply r_idxO; (focus rfl); (focus rfl); (focus omega)
    apply r_load; (focus rfl); (focus exact k1); (focus exact hld)
    apply r_inc8; (focus rfl)
    apply r_idxO; (focus rfl); (focus rfl); (focus omega)
    apply r_storeO; (focus rfl); (focus rfl); (focus rfl); (focus rfl); (focus exact k1); (focus omega)
    intro Z z1 z2
    rw [setL1 rfl] at z1
    repeat (refine gk smU ?_)
    refine k_n (q + 1) (by simp only [ybN] at *; omega) ⟨by simp only [ybN] at *; omega, hf.own (hnv a (by simp [fvb])) z2, hyv.set k1 z1 z2, fun x hx => (hye x hx).set k1 z1 z2⟩ ?_
    (refine leM ?_ ?_ ?_ <;> (repeat refine leS trivial ?_) <;> exact leE)
  repeat (refine gk smU ?_)
  refine c_loop (Spec_SMono L) (fun (q : Nat) => [(11, .h (.sl .no 3 (eos.map encO))), (12, .h (B true)), (14, .h (I q))]) (fun _ => [])
    (fun q X => q ≤ eos.length ∧ Fr [] H X ∧ ∀ x ∈ eos, YB X x.v) (fun q => eos.length - q) 0 ?_ ⟨by simp, hf, hye⟩ ?_
  · (refine leM ?_ ?_ ?_ <;> (repeat refine leS trivial ?_) <;> exact leE)
  clear hyv hye hf
  rintro i X ⟨hi1, hf, hye⟩
  repeat (refine gk smU ?_)
  (refine ct smU ?_ ?_ <;> intro hci)
  · have hi' : i < eos.length := by simpa using hci
    have hmem := List.getElem_mem hi'
    repeat (refine gk smU ?_)
    refine c_loop (Spec_SMono L) (fun (q : Nat) => [(11, .h (.sl .no 3 (eos.map encO))), (12, .h (B true)), (14, .h (I i)), (15, .h (I q))]) (fun _ => [])
      (fun q X => q ≤ ybN eos[i].v ∧ Fr [] H X ∧ ∀ x ∈ eos, YB X x.v) (fun q => ybN eos[i].v - q) 0 ?_ ⟨by simp, hf, hye⟩ ?_
    · (refine leM ?_ ?_ ?_ <;> (repeat refine leS trivial ?_) <;> exact leE)
    clear hye hf
    rintro q X ⟨hq1, hf, hye⟩
    have hyv := hye _ hmem
    repeat (refine gk smU ?_)
    refine r_lenY rfl hyv ?_
    repeat (refine gk smU ?_)
    (refine ct smU ?_ ?_ <;> intro hc)
    · have hq' : q < ybN eos[i].v := by simpa using hc
      rcases (by unfold YB at hyv; exact hyv : eos[i].v = .v (.slice none 0 0) ∨ eos[i].v = .sl .full 1 [] ∨ ∃ a n c cs, eos[i].v = .v (.slice (some ⟨a, 0, none⟩) n c) ∧ X a = some (.obj cs) ∧ n ≤ cs.length ∧ n ≤ maxLen ∧ ∀ k, k < n → ∃ y, cs[k]? = some (U y)) with hv | hv | ⟨a, n', c', cs, hv, k1, k2, k3, k4⟩
      · rw [hv] at hq'; exact absurd hq' (Nat.not_lt_zero _)
      · rw [hv] at hq'; exact absurd hq' (Nat.not_lt_zero _)
      have hq3 : q < n' := by rw [hv] at hq'; exact hq'
      have hmx : maxLen = 9223372036854775807 := rfl
      obtain ⟨y, hy⟩ := k4 q hq3
      have hld : loadv false 1 (0 + (q : Int).toNat * 1) cs = some (U y) := load_at (by rw [show 0 + (q : Int).toNat * 1 = q by simp]; exact hy)
      have hna := hnE _ hmem a (by rw [hv]; simp [fvb])
      repeat (refine gk smU ?_)
      rw [hv]
      apply r_idxO; (focus rfl); (focus rfl); (focus omega)
      apply r_load; (focus rfl); (focus exact k1); (focus exact hld)
      apply r_inc8; (focus rfl)
      apply r_idxO; (focus rfl); (focus rfl); (focus omega)
      apply r_storeO; (focus rfl); (focus rfl); (focus rfl); (focus rfl); (focus exact k1); (focus omega)
      intro Z z1 z2
      rw [setL1 rfl] at z1
      rw [← hv]
      repeat (refine gk smU ?_)
      refine k_n (q + 1) (by omega) ⟨by omega, hf.own hna z2, fun x hx => (hye x hx).set k1 z1 z2⟩ ?_
      (refine leM ?_ ?_ ?_ <;> (repeat refine leS trivial ?_) <;> exact leE)
    repeat (refine gk smU ?_)
    refine k_n (i + 1) (by omega) ⟨by omega, hf, hye⟩ ?_
    (refine leM ?_ ?_ ?_ <;> (repeat refine leS trivial ?_) <;> exact leE)
  repeat (refine gk smU ?_)
  exact resK_some (hk X hf)
end Sm
