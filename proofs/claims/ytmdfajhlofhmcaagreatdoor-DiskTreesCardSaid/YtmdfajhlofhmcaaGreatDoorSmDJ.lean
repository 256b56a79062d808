/-
  A layer of one's own: texts D31,D32.
-/
import Derived.Test.YtmdfajhlofhmcaaGreatDoorSmDI
set_option linter.unusedVariables false
set_option linter.unusedSimpArgs false
set_option maxRecDepth 10000
set_option maxHeartbeats 2000000
namespace Sm
open Go
-- BASE akU
/-- A call. -/
structure Ak where
  kind : UInt8
  p : List UInt8
  q : List UInt8
  b : List UInt8
  n : Int
  done : Bool
  deriving Inhabited
def akV (a : Ak) : HV := .ag [U a.kind, S a.p, S a.q, .sl .no 1 (a.b.map U), I a.n, B a.done]
theorem akU : (∀ d : Dk, rkV d = .ag [I d.room, .sl .no 3 (d.sure.map rnV), .sl .no 2 (d.loose.map rcV), .sl .no 2 (d.f.map rfV), B d.down, I d.ops, I d.fails, B d.done, I d.wrong]) ∧ (∀ a : Ak, akV a = .ag [U a.kind, S a.p, S a.q, .sl .no 1 (a.b.map U), I a.n, B a.done]) ∧ (∀ e : Ent, encE e = .ag [S e.path, B e.dir, .sl .no 1 (e.data.map U)]) := ⟨fun _ => rfl, fun _ => rfl, fun _ => rfl⟩
def doJ (d : Dk) (a : Ak) : Nat → Dk × Int
  | 0 => d.put a.p false
  | 1 => d.append a.p a.b
  | 2 => d.cut a.p a.n
  | 3 => d.sync a.p
  | 4 => d.put a.p true
  | 5 => d.remove a.p
  | 6 => d.rename a.p a.q
  | 7 => d.syncDirs
  | 8 => d.fail a.n a.done
  | 9 => d.fault a.n
  | _ => (d.crash a.n a.b, 0)
/-- What a call leaves, and answers. -/
def doD (d : Dk) (a : Ak) : Dk × Int := doJ d a (a.kind.toNat % 12)
theorem r_inc8 {S' : SpecT} {sl : List (Nat × EV)} {bx : List (Nat × List HV)} {H : Heap} {K : Env → Heap → Prop} {os : List SOper} {d : Nat} {x : Opd} {k : UInt8} (hx : (M sl bx).hv x = some (U k))
    (h : rsem S' os (M ((d, .h (U (k + 1))) :: sl) bx) H K) : rsem S' (⟨some d, .int .add x (.c (.int .u8 1)), none⟩ :: os) (M sl bx) H K := by
  refine r_calm rfl ?_ h
  have hx' : (M sl bx).hv x = some (.v (.int .u8 (k.toNat : Int))) := hx
  have hy : (M sl bx).hv (.c (.int .u8 1)) = some (.v (.int .u8 1)) := rfl
  simp only [SOp.ev, hx', hy, intOp]
  have e : IntKind.u8.wrap ((k.toNat : Int) + 1) = ((k + 1).toNat : Int) := by
    rw [UInt8.toNat_add]
    show ((k.toNat : Int) + 1) % 256 = _
    have : (1 : UInt8).toNat = 1 := rfl
    rw [this]; omega
  rw [if_pos trivial, Option.map_some, e]
theorem Own.tail {H Y Z : Heap} {bs bs' cs : List Nat} (h : Own H Y bs bs') (hf : Fr cs Y Z) (hn : ∀ a ∈ cs, H a = none) : Own H Z bs bs' :=
  ⟨Fr.make2 fun a r ha hr => hf.get (fun hm => by rw [hn a hm] at hr; cases hr) (h.get ha hr), h.nw⟩
theorem byte_at {l : List UInt8} {i : Nat} (h : i < l.length) (zs : List HV) : loadv false 1 (0 + (i : Int).toNat * 1) (l.map U ++ zs) = some (U l[i]) := by
  rw [show 0 + (i : Int).toNat * 1 = i by simp]
  exact load_at (by rw [List.getElem?_append_left (by simpa using h)]; simp [h])
theorem byte_set {l : List UInt8} {i : Nat} (h : i < l.length) (zs : List HV) (k : UInt8) : setL (l.map U ++ zs) (0 + (i : Int).toNat * 1) (U k).cells = (l.set i k).map U ++ zs := by
  have := set_row (g := U) (k := 1) (fun _ => rfl) h k zs
  rw [flat_U, flat_U] at this
  rw [show 0 + (i : Int).toNat * 1 = i * 1 by simp]; exact this
theorem CB_bv {H : Heap} {v : HV} {l : List UInt8} (h : CB H v l) : BV H v l := by
  rcases h with ⟨rfl, rfl⟩ | ⟨rfl, rfl⟩ | ⟨a, c, zs, rfl, h, _⟩
  · exact .inr (.inl ⟨rfl, rfl⟩)
  · exact .inl ⟨.full, rfl⟩
  · exact .inr (.inr ⟨a, c, zs, rfl, h⟩)
theorem CB.own {H X : Heap} {bs bs' : List Nat} {v : HV} {l : List UInt8} (h : CB H v l) (o : Own H X bs bs') (hb : ∀ a ∈ fvb v, a ∉ bs) : CB X v l := by
  rcases h with h | h | ⟨a, c, zs, rfl, h, h2⟩
  · exact .inl h
  · exact .inr (.inl h)
  · exact .inr (.inr ⟨a, c, zs, rfl, o.get (hb a (by simp [fvb])) h, h2⟩)
theorem CB.apart {H X : Heap} {bs bs' : List Nat} {v : HV} {l : List UInt8} (h : CB H v l) (o : Own H X bs bs') (hb : ∀ a ∈ fvb v, a ∉ bs) : ∀ a ∈ fvb v, a ∉ bs' := fun a ha => by
  obtain ⟨cs, hc⟩ := h.held a ha
  exact o.apart (hb a ha) hc
attribute [local irreducible] csem rsem dsem seqK blockK normK finK DK RK JK BR G3 resK Spec Tok Fr CV GA

theorem do_spec (L : Linked code) (C : Cl L) (b : Nat) (h : Hd) (d : Dk) (a : Ak) (n m : Nat) (hw : d.WF n m) (hn : n < 1048000) (hnm : n * m ≤ 1152921504606846976) (hm : m + a.b.length ≤ 140737488355328) (hp : a.p.length ≤ 1048576) (hq : a.q.length ≤ 1048576) (hbl : a.b.length ≤ 1048576) (H : Heap) (hD : KD H b h d)
    (K) (hk : ∀ Y h', KD Y b h' (doD d a).1 → Own H Y (h.bs b) (h'.bs b) → K (.tu [rkV (doD d a).1, B true]) Y) : Spec L.P L.ν 296 [ptr b, rkV d, akV a] H K := by
  unfold doD at hk
  refine go_spec L code296 rfl ?_
  repeat (refine gk akU ?_)
  have hj : a.kind.toNat % 12 = 0 ∨ a.kind.toNat % 12 = 1 ∨ a.kind.toNat % 12 = 2 ∨ a.kind.toNat % 12 = 3 ∨ a.kind.toNat % 12 = 4 ∨ a.kind.toNat % 12 = 5 ∨ a.kind.toNat % 12 = 6 ∨ a.kind.toNat % 12 = 7 ∨ a.kind.toNat % 12 = 8 ∨ a.kind.toNat % 12 = 9 ∨ a.kind.toNat % 12 = 10 ∨ a.kind.toNat % 12 = 11 := by omega
  rcases hj with hj | hj | hj | hj | hj | hj | hj | hj | hj | hj | hj | hj
  · have hi : (a.kind.toNat : Int).tmod 12 = 0 := by rw [Int.tmod_eq_emod_of_nonneg (by omega)]; omega
    rw [hi]
    rw [hj] at hk
    dsimp only [doJ] at hk
    repeat (first | (refine gk akU ?_) | (simp only [Int.reduceBEq]))
    (apply r_call; (focus rfl))
    refine dcreate_spec L b h d a.p n m hw (by omega) hp H hD _ fun Y h' hY oY => ?_
    repeat (refine gk akU ?_)
    (apply r_call; (focus rfl))
    refine rcreate_spec L d a.p hp n m hw (by omega) Y _ fun Y2 f2 => ?_
    repeat (refine gk akU ?_)
    exact resK_some (hk Y2 h' (hY.fr0 f2) (oY.trans (Own.of _ f2)))
  · have hi : (a.kind.toNat : Int).tmod 12 = 1 := by rw [Int.tmod_eq_emod_of_nonneg (by omega)]; omega
    rw [hi]
    rw [hj] at hk
    dsimp only [doJ] at hk
    repeat (first | (refine gk akU ?_) | (simp only [Int.reduceBEq]))
    refine r_appB (v := .sl .full 1 []) (l := []) (ys := a.b) rfl (.inr (.inl ⟨rfl, rfl⟩)) rfl (.inl ⟨.no, rfl⟩) (by simp; omega) fun v X hC f1 hvn => ?_
    have f1' : Fr [] H X := f1
    rw [List.nil_append] at hC
    have hDX := hD.fr0 f1'
    have hvn' : ∀ c ∈ fvb v, H c = none := fun c hc => (hvn c hc).elim (fun h => by simp [fvb] at h) id
    have hva : ∀ c ∈ fvb v, c ∉ h.bs b := fun c hc => hD.new (hvn' c hc)
    repeat (refine gk akU ?_)
    (apply r_call; (focus rfl))
    refine dappend_spec L b h d a.p v a.b n m hw (by omega) hnm hm hp X hDX (CB_bv hC) hva _ fun Y h' hY oY => ?_
    have oY2 := (Own.of (h.bs b) f1').trans oY
    repeat (refine gk akU ?_)
    refine c_loop (Spec_SMono L) (fun (q : Nat) => [(0, .h (ptr b)), (4, .lp 0 0), (5, .lp 1 0), (6, .lp 2 0), (8, .h (I (d.append a.p a.b).2)), (9, .h (I 0)), (10, .h v), (11, .h (I q))]) (fun _ => [(0, [I d.room, .sl .no 3 (d.sure.map rnV), .sl .no 2 (d.loose.map rcV), .sl .no 2 (d.f.map rfV), B d.down, I d.ops, I d.fails, B d.done, I d.wrong]), (1, [U a.kind, S a.p, S a.q, .sl .no 1 (a.b.map U), I a.n, B a.done]), (2, [I 0, .v (.slice none 0 0), .v (.slice none 0 0), .v (.slice none 0 0), B false, I 0, I 0, B false, I 0])])
      (fun q Z => q ≤ a.b.length ∧ Fr (fvb v) Y Z ∧ ∃ l', l'.length = a.b.length ∧ CB Z v l') (fun q => a.b.length - q) 0 ?_ ⟨by simp, Fr.refl _ _, a.b, rfl, ?_⟩ ?_
    · (refine leM ?_ ?_ ?_ <;> (repeat refine leS trivial ?_) <;> exact leE)
    · exact hC.own oY hva
    rintro q Z ⟨hq1, hfZ, l', hl', hCZ⟩
    refine c_seq ?_
    repeat (refine gk akU ?_)
    refine r_lenB rfl (CB_bv hCZ) ?_
    repeat (refine gk akU ?_)
    (refine ct akU ?_ ?_ <;> intro hqc)
    · have hq' : q < l'.length := by simpa using hqc
      rcases hCZ with ⟨rfl, rfl⟩ | ⟨rfl, rfl⟩ | ⟨c0, c1, zs, rfl, k1, k2, k3, k4⟩
      · cases hq'
      · cases hq'
      repeat (refine gk akU ?_)
      apply r_idxO; (focus rfl); (focus rfl); (focus omega)
      apply r_load; (focus rfl); (focus exact k1); (focus exact byte_at hq' zs)
      apply r_inc8; (focus rfl)
      apply r_idxO; (focus rfl); (focus rfl); (focus omega)
      apply r_storeO; (focus rfl); (focus rfl); (focus rfl); (focus rfl); (focus exact k1); (focus (rw [List.length_append, List.length_map]; omega))
      intro Z2 z2 g2
      rw [byte_set hq' zs] at z2
      have hls : (l'.set q (l'[q] + 1)).length = l'.length := by simp
      repeat (refine gk akU ?_)
      refine k_n (q + 1) (by omega) ⟨by omega, hfZ.trans (by simpa [fvb] using g2), l'.set q (l'[q] + 1), by rw [hls]; exact hl', .inr (.inr ⟨c0, c1, zs, by rw [hls], z2, by rw [hls]; exact k2, k3, by rw [hls]; exact k4⟩)⟩ ?_
      (refine leM ?_ ?_ ?_ <;> (repeat refine leS trivial ?_) <;> exact leE)
    have hDZ : KD Z b h' (d.append a.p a.b).1 := hY.fr hfZ fun x hx hm => hC.apart oY hva x hm hx
    have oZ := oY2.tail hfZ hvn'
    repeat (refine gk akU ?_)
    (apply r_call; (focus rfl))
    refine rappend_spec L d a.p a.b hp n m hw (by omega) hnm hm Z _ fun Y2 f2 => ?_
    repeat (refine gk akU ?_)
    exact resK_some (hk Y2 h' (hDZ.fr0 f2) (oZ.trans (Own.of _ f2)))
  · have hi : (a.kind.toNat : Int).tmod 12 = 2 := by rw [Int.tmod_eq_emod_of_nonneg (by omega)]; omega
    rw [hi]
    rw [hj] at hk
    dsimp only [doJ] at hk
    repeat (first | (refine gk akU ?_) | (simp only [Int.reduceBEq]))
    (apply r_call; (focus rfl))
    refine dcut_spec L b h d a.p a.n n m hw (by omega) hp H hD _ fun Y h' hY oY => ?_
    repeat (refine gk akU ?_)
    (apply r_call; (focus rfl))
    refine rcut_spec L d a.p a.n hp n m hw (by omega) (by omega) Y _ fun Y2 f2 => ?_
    repeat (refine gk akU ?_)
    exact resK_some (hk Y2 h' (hY.fr0 f2) (oY.trans (Own.of _ f2)))
  · have hi : (a.kind.toNat : Int).tmod 12 = 3 := by rw [Int.tmod_eq_emod_of_nonneg (by omega)]; omega
    rw [hi]
    rw [hj] at hk
    dsimp only [doJ] at hk
    repeat (first | (refine gk akU ?_) | (simp only [Int.reduceBEq]))
    (apply r_call; (focus rfl))
    refine dsync_spec L b h d a.p n m hw (by omega) hp H hD _ fun Y h' hY oY => ?_
    repeat (refine gk akU ?_)
    (apply r_call; (focus rfl))
    refine rsync_spec L d a.p hp n m hw (by omega) (by omega) Y _ fun Y2 f2 => ?_
    repeat (refine gk akU ?_)
    exact resK_some (hk Y2 h' (hY.fr0 f2) (oY.trans (Own.of _ f2)))
  · have hi : (a.kind.toNat : Int).tmod 12 = 4 := by rw [Int.tmod_eq_emod_of_nonneg (by omega)]; omega
    rw [hi]
    rw [hj] at hk
    dsimp only [doJ] at hk
    repeat (first | (refine gk akU ?_) | (simp only [Int.reduceBEq]))
    (apply r_call; (focus rfl))
    refine dmkdir_spec L b h d a.p n m hw (by omega) hp H hD _ fun Y h' hY oY => ?_
    repeat (refine gk akU ?_)
    (apply r_call; (focus rfl))
    refine rmkdir_spec L d a.p hp n m hw (by omega) Y _ fun Y2 f2 => ?_
    repeat (refine gk akU ?_)
    exact resK_some (hk Y2 h' (hY.fr0 f2) (oY.trans (Own.of _ f2)))
  · have hi : (a.kind.toNat : Int).tmod 12 = 5 := by rw [Int.tmod_eq_emod_of_nonneg (by omega)]; omega
    rw [hi]
    rw [hj] at hk
    dsimp only [doJ] at hk
    repeat (first | (refine gk akU ?_) | (simp only [Int.reduceBEq]))
    (apply r_call; (focus rfl))
    refine dremove_spec L b h d a.p n m hw (by omega) hp H hD _ fun Y h' hY oY => ?_
    repeat (refine gk akU ?_)
    (apply r_call; (focus rfl))
    refine rdremove_spec L d a.p hp n m hw (by omega) Y _ fun Y2 f2 => ?_
    repeat (refine gk akU ?_)
    exact resK_some (hk Y2 h' (hY.fr0 f2) (oY.trans (Own.of _ f2)))
  · have hi : (a.kind.toNat : Int).tmod 12 = 6 := by rw [Int.tmod_eq_emod_of_nonneg (by omega)]; omega
    rw [hi]
    rw [hj] at hk
    dsimp only [doJ] at hk
    repeat (first | (refine gk akU ?_) | (simp only [Int.reduceBEq]))
    (apply r_call; (focus rfl))
    refine drenames_spec L b h d a.p a.q n m hw (by omega) hp hq H hD _ fun Y h' hY oY => ?_
    repeat (refine gk akU ?_)
    (apply r_call; (focus rfl))
    refine rrename_spec L d a.p a.q hp hq n m hw (by omega) Y _ fun Y2 f2 => ?_
    repeat (refine gk akU ?_)
    exact resK_some (hk Y2 h' (hY.fr0 f2) (oY.trans (Own.of _ f2)))
  · have hi : (a.kind.toNat : Int).tmod 12 = 7 := by rw [Int.tmod_eq_emod_of_nonneg (by omega)]; omega
    rw [hi]
    rw [hj] at hk
    dsimp only [doJ] at hk
    repeat (first | (refine gk akU ?_) | (simp only [Int.reduceBEq]))
    (apply r_call; (focus rfl))
    refine dsyncdirs_spec L b h d n m hw (by omega) H hD _ fun Y h' hY oY => ?_
    repeat (refine gk akU ?_)
    (apply r_call; (focus rfl))
    refine rsyncdirs_spec L d n m hw (by omega) Y _ fun Y2 f2 => ?_
    repeat (refine gk akU ?_)
    exact resK_some (hk Y2 h' (hY.fr0 f2) (oY.trans (Own.of _ f2)))
  · have hi : (a.kind.toNat : Int).tmod 12 = 8 := by rw [Int.tmod_eq_emod_of_nonneg (by omega)]; omega
    rw [hi]
    rw [hj] at hk
    dsimp only [doJ] at hk
    repeat (first | (refine gk akU ?_) | (simp only [Int.reduceBEq]))
    (apply r_call; (focus rfl))
    refine dfail_spec L b h d a.n a.done H hD _ fun Y hY oY => ?_
    repeat (refine gk akU ?_)
    (apply r_call; (focus rfl))
    refine rfail_spec L d a.n a.done Y _ fun Y2 f2 => ?_
    repeat (refine gk akU ?_)
    exact resK_some (hk Y2 h (hY.fr0 f2) (oY.trans (Own.of _ f2)))
  · have hi : (a.kind.toNat : Int).tmod 12 = 9 := by rw [Int.tmod_eq_emod_of_nonneg (by omega)]; omega
    rw [hi]
    rw [hj] at hk
    dsimp only [doJ] at hk
    repeat (first | (refine gk akU ?_) | (simp only [Int.reduceBEq]))
    (apply r_call; (focus rfl))
    refine dfault_spec L b h d a.n H hD _ fun Y hY oY => ?_
    repeat (refine gk akU ?_)
    (apply r_call; (focus rfl))
    refine rfault_spec L d a.n Y _ fun Y2 f2 => ?_
    repeat (refine gk akU ?_)
    exact resK_some (hk Y2 h (hY.fr0 f2) (oY.trans (Own.of _ f2)))
  · have hi : (a.kind.toNat : Int).tmod 12 = 10 := by rw [Int.tmod_eq_emod_of_nonneg (by omega)]; omega
    rw [hi]
    rw [hj] at hk
    dsimp only [doJ] at hk
    repeat (first | (refine gk akU ?_) | (simp only [Int.reduceBEq]))
    (apply r_call; (focus rfl))
    refine dcrash_spec L C b h d a.n a.b n m hw (by omega) (by omega) (by omega) H hD _ fun Y h' hY oY => ?_
    repeat (refine gk akU ?_)
    (apply r_call; (focus rfl))
    refine rcrash_spec L d a.n a.b n m hw (by omega) (by omega) hbl Y _ fun Y2 f2 => ?_
    repeat (refine gk akU ?_)
    exact resK_some (hk Y2 h' (hY.fr0 f2) (oY.trans (Own.of _ f2)))
  · have hi : (a.kind.toNat : Int).tmod 12 = 11 := by rw [Int.tmod_eq_emod_of_nonneg (by omega)]; omega
    rw [hi]
    rw [hj] at hk
    dsimp only [doJ] at hk
    repeat (first | (refine gk akU ?_) | (simp only [Int.reduceBEq]))
    (apply r_call; (focus rfl))
    refine dcrash_spec L C b h d a.n a.b n m hw (by omega) (by omega) (by omega) H hD _ fun Y h' hY oY => ?_
    repeat (refine gk akU ?_)
    (apply r_call; (focus rfl))
    refine rcrash_spec L d a.n a.b n m hw (by omega) (by omega) hbl Y _ fun Y2 f2 => ?_
    repeat (refine gk akU ?_)
    exact resK_some (hk Y2 h' (hY.fr0 f2) (oY.trans (Own.of _ f2)))
end Sm

set_option linter.unusedVariables false
set_option linter.unusedSimpArgs false
set_option maxRecDepth 10000
set_option maxHeartbeats 2000000
namespace Sm
open Go
-- BASE akU
def smallA (a : Ak) : Bool := decide (a.p.length ≤ 300) && decide (a.q.length ≤ 300)
def sizA (l : List Ak) : Nat := (l.map fun a => min a.b.length 4001).sum
def fewD (l : List Ak) (most : Int) : Bool := decide ((l.length : Int) ≤ most) && (l.all smallA && decide (sizA l ≤ 4000))
theorem sizA_take {l : List Ak} {i : Nat} (h : i < l.length) : sizA (l.take (i + 1)) = sizA (l.take i) + min l[i].b.length 4001 := by
  unfold sizA
  rw [List.take_succ_eq_append_getElem h, List.map_append, List.sum_append]; simp
theorem sizA_le : ∀ (l : List Ak) (i : Nat), sizA (l.take i) ≤ sizA l
  | [], i => by simp [sizA]
  | a :: l, 0 => by simp [sizA]
  | a :: l, i + 1 => by
    have := sizA_le l i
    simp only [sizA, List.take_succ_cons, List.map_cons, List.sum_cons] at this ⊢
    omega
def crashedD (l : List Ak) : Bool := l.any fun a => decide (10 ≤ a.kind.toNat % 12)
def szE (l : List Ent) : Nat := (l.map fun e => e.data.length).sum
attribute [local irreducible] csem rsem dsem seqK blockK normK finK DK RK JK BR G3 resK Spec Tok Fr CV GA

theorem few_spec (L : Linked code) (l : List Ak) (most : Int) (hm : most ≤ 1048576) : Pure L 292 [.sl .no 6 (l.map akV), I most] (B (fewD l most)) := by
  intro H K hk
  unfold fewD at hk
  refine go_spec L code292 rfl ?_
  repeat (refine gk akU ?_)
  cases c1 : decide (most < (l.length : Int))
  case true =>
    rw [decide_eq_false (by simpa using c1)] at hk
    repeat (refine gk akU ?_)
    exact resK_some hk
  rw [decide_eq_true (by simpa using c1), Bool.true_and] at hk
  have hl : l.length ≤ 1048576 := by
    have : ¬ most < (l.length : Int) := by simpa using c1
    omega
  repeat (refine gk akU ?_)
  refine c_loop (Spec_SMono L) (fun (q : Nat) => [(0, .h (.sl .no 6 (l.map akV))), (5, .h (I (sizA (l.take q)))), (6, .h (I q))]) (fun _ => [])
    (fun q X => q ≤ l.length ∧ X = H ∧ sizA (l.take q) ≤ 4000 ∧ ∀ a ∈ l.take q, smallA a = true) (fun q => l.length - q) 0 ?_ ⟨by simp, rfl, by simp [sizA], by simp⟩ ?_
  · (refine leM ?_ ?_ ?_ <;> (repeat refine leS trivial ?_) <;> exact leE)
  rintro k X ⟨hk1, rfl, hs, hall⟩
  repeat (refine gk akU ?_)
  (refine ct akU ?_ ?_ <;> intro h2)
  · have hk' : k < l.length := by simpa using h2
    have hst := sizA_take hk'
    have hsl := sizA_le l (k + 1)
    have hst2 := List.take_succ_eq_append_getElem hk'
    have hmem := List.getElem_mem hk'
    repeat (refine gk akU ?_)
    cases c2 : decide (4000 < (sizA (l.take k) : Int) + min (l[k].b.length : Int) 4001)
    case true =>
      rw [decide_eq_false (show ¬ sizA l ≤ 4000 by have : (4000 : Int) < (sizA (l.take k) : Int) + min (l[k].b.length : Int) 4001 := by simpa using c2
                                                   omega), Bool.and_false] at hk
      repeat (refine gk akU ?_)
      exact resK_some hk
    have c2' : ¬ (4000 : Int) < (sizA (l.take k) : Int) + min (l[k].b.length : Int) 4001 := by simpa using c2
    repeat (refine gk akU ?_)
    cases c3 : decide (300 < (l[k].p.length : Int))
    case true =>
      have hf : l.all smallA = false := by
        rw [List.all_eq_false]
        refine ⟨_, hmem, ?_⟩
        have : ¬ l[k].p.length ≤ 300 := by have : (300 : Int) < (l[k].p.length : Int) := by simpa using c3
                                           omega
        simp [smallA, this]
      rw [hf, Bool.false_and] at hk
      repeat (refine gk akU ?_)
      exact resK_some hk
    repeat (refine gk akU ?_)
    cases c4 : decide (300 < (l[k].q.length : Int))
    case true =>
      have hf : l.all smallA = false := by
        rw [List.all_eq_false]
        refine ⟨_, hmem, ?_⟩
        have : ¬ l[k].q.length ≤ 300 := by have : (300 : Int) < (l[k].q.length : Int) := by simpa using c4
                                           omega
        simp [smallA, this]
      rw [hf, Bool.false_and] at hk
      repeat (refine gk akU ?_)
      exact resK_some hk
    have hsm : smallA l[k] = true := by
      have e1 : ¬ (300 : Int) < (l[k].p.length : Int) := by simpa using c3
      have e2 : ¬ (300 : Int) < (l[k].q.length : Int) := by simpa using c4
      unfold smallA
      rw [decide_eq_true (by omega), decide_eq_true (by omega)]; rfl
    have hsum : (sizA (l.take k) : Int) + min (l[k].b.length : Int) 4001 = ((sizA (l.take (k + 1)) : Nat) : Int) := by rw [hst]; omega
    repeat (refine gk akU ?_)
    rw [hsum]
    repeat (refine gk akU ?_)
    refine k_n (k + 1) (by omega) ⟨by omega, rfl, by omega, fun a ha => ?_⟩ ?_
    · rw [hst2] at ha
      rcases List.mem_append.mp ha with ha | ha
      · exact hall a ha
      · rw [List.mem_singleton] at ha; subst ha; exact hsm
    · (refine leM ?_ ?_ ?_ <;> (repeat refine leS trivial ?_) <;> exact leE)
  have hk' : k = l.length := by have : ¬ k < l.length := by simpa using h2
                                omega
  subst hk'
  rw [List.take_length] at hs hall
  rw [decide_eq_true hs, List.all_eq_true.mpr hall] at hk
  repeat (refine gk akU ?_)
  exact resK_some hk
theorem crashed_spec (L : Linked code) (l : List Ak) (hl : l.length ≤ 1048576) : Pure L 317 [.sl .no 6 (l.map akV)] (B (crashedD l)) := by
  intro H K hk
  unfold crashedD at hk
  refine go_spec L code317 rfl ?_
  repeat (refine gk akU ?_)
  refine c_loop (Spec_SMono L) (fun (q : Nat) => [(0, .h (.sl .no 6 (l.map akV))), (3, .h (I q))]) (fun _ => [])
    (fun q X => q ≤ l.length ∧ X = H ∧ ∀ a ∈ l.take q, decide (10 ≤ a.kind.toNat % 12) = false) (fun q => l.length - q) 0 ?_ ⟨by simp, rfl, by simp⟩ ?_
  · (refine leM ?_ ?_ ?_ <;> (repeat refine leS trivial ?_) <;> exact leE)
  rintro k X ⟨hk1, rfl, hall⟩
  repeat (refine gk akU ?_)
  (refine ct akU ?_ ?_ <;> intro h2)
  · have hk' : k < l.length := by simpa using h2
    have hst2 := List.take_succ_eq_append_getElem hk'
    have hmem := List.getElem_mem hk'
    have htm : (l[k].kind.toNat : Int).tmod 12 = ((l[k].kind.toNat % 12 : Nat) : Int) := by rw [Int.tmod_eq_emod_of_nonneg (by omega)]; omega
    repeat (refine gk akU ?_)
    rw [htm]
    repeat (refine gk akU ?_)
    (refine ct akU ?_ ?_ <;> intro h3)
    · have h3' : 10 ≤ l[k].kind.toNat % 12 := by
        have : (((l[k].kind.toNat % 12 : Nat) : Int)) ≥ 10 := by simpa using h3
        omega
      have ha : l.any (fun a => decide (10 ≤ a.kind.toNat % 12)) = true := List.any_eq_true.mpr ⟨_, hmem, by simpa using h3'⟩
      rw [ha] at hk
      repeat (refine gk akU ?_)
      exact resK_some hk
    have h3' : ¬ 10 ≤ l[k].kind.toNat % 12 := by
      have : ¬ (((l[k].kind.toNat % 12 : Nat) : Int)) ≥ 10 := by simpa using h3
      omega
    repeat (refine gk akU ?_)
    refine k_n (k + 1) (by omega) ⟨by omega, rfl, fun a ha => ?_⟩ ?_
    · rw [hst2] at ha
      rcases List.mem_append.mp ha with ha | ha
      · exact hall a ha
      · rw [List.mem_singleton] at ha; subst ha; exact decide_eq_false h3'
    · (refine leM ?_ ?_ ?_ <;> (repeat refine leS trivial ?_) <;> exact leE)
  have hk' : k = l.length := by have : ¬ k < l.length := by simpa using h2
                                omega
  subst hk'
  rw [List.take_length] at hall
  have ha : l.any (fun a => decide (10 ≤ a.kind.toNat % 12)) = false := by
    rw [List.any_eq_false]; intro a h; rw [hall a h]; decide
  rw [ha] at hk
  repeat (refine gk akU ?_)
  exact resK_some hk
theorem size_spec (L : Linked code) (l : List Ent) (n m : Nat) (hl : l.length ≤ n) (hn : n ≤ 1048576) (hnm : n * m ≤ 1152921504606846976) (hd : ∀ e ∈ l, e.data.length ≤ m) : Pure L 316 [.sl .no 3 (l.map encE)] (I (szE l)) := by
  intro H K hk
  refine go_spec L code316 rfl ?_
  repeat (refine gk akU ?_)
  refine c_loop (Spec_SMono L) (fun (q : Nat) => [(3, .h (I (szE (l.take q)))), (6, .h (.sl .no 3 (l.map encE))), (7, .h (I l.length)), (8, .h (I q))]) (fun _ => [])
    (fun q X => q ≤ l.length ∧ X = H) (fun q => l.length - q) 0 ?_ ⟨by simp, rfl⟩ ?_
  · (refine leM ?_ ?_ ?_ <;> (repeat refine leS akU ?_) <;> exact leE)
  rintro k X ⟨hk1, rfl⟩
  repeat (refine gk akU ?_)
  (refine ct akU ?_ ?_ <;> intro h2)
  · have hk' : k < l.length := by simpa using h2
    have hst2 := List.take_succ_eq_append_getElem hk'
    have hs1 : szE (l.take (k + 1)) = szE (l.take k) + l[k].data.length := by
      unfold szE
      rw [hst2, List.map_append, List.sum_append]; simp
    have hb1 : szE (l.take k) + l[k].data.length ≤ 1152921504606846976 := by
      rw [← hs1]
      unfold szE
      refine Nat.le_trans (sum_le _ m fun x hx => hd x (List.mem_of_mem_take hx)) (Nat.le_trans (Nat.mul_le_mul_right m ?_) hnm)
      rw [List.length_take]; omega
    repeat (refine gk akU ?_)
    refine k_n (k + 1) (by omega) ⟨by omega, rfl⟩ ?_
    rw [hs1]
    (refine leM ?_ ?_ ?_ <;> (repeat refine leS trivial ?_) <;> exact leE)
  have hk' : k = l.length := by have : ¬ k < l.length := by simpa using h2
                                omega
  subst hk'
  rw [List.take_length]
  repeat (refine gk akU ?_)
  exact resK_some hk
end Sm
