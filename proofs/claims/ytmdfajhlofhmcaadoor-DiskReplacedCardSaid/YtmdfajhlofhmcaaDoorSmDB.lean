/-
  A layer of one's own: texts D3,D4,D5,D6,D7,D41.
-/
import Derived.Test.YtmdfajhlofhmcaaDoorSmDA
import Derived.Test.YtmdfajhlofhmcaaDoorSmTC
set_option linter.unusedVariables false
set_option linter.unusedSimpArgs false
set_option maxRecDepth 10000
set_option maxHeartbeats 1000000
namespace Sm
open Go
-- BASE entU
/-- A name's node, as maps have it. -/
def dirO (o : Option Nm) : Bool := match o with
  | some x => x.dir
  | none => false
def idO (o : Option Nm) : Nat := match o with
  | some x => x.id
  | none => 0
abbrev ndV (x : Nm) : HV := .ag [B x.dir, I x.id]
abbrev ndO (o : Option Nm) : HV := .ag [B (dirO o), I (idO o)]
def ndP : Option Nm → HV
  | none => .v (.pointer none)
  | some x => .rp [B x.dir, I x.id]
def chgV (c : Chg) : HV := .ag [.sl .no 1 (c.ps.map fun q => S q.1), .sl .no 1 (c.ps.map fun q => ndP q.2)]
/-- Names as a map. -/
def PM (H : Heap) (b : Nat) (l : List Nm) : Prop := ∃ m : List Nm, m.Perm l ∧ MP H b Nm.path ndV m
theorem PM.fr {H H' : Heap} {bs : List Nat} {b : Nat} {l : List Nm} (h : PM H b l) (hf : Fr bs H H') (hb : b ∉ bs) : PM H' b l := by
  obtain ⟨m, h1, h2⟩ := h; exact ⟨m, h1, h2.fr hf hb⟩
theorem PM.held {H : Heap} {b : Nat} {l : List Nm} (h : PM H b l) : ∃ r, H b = some r := by
  obtain ⟨m, h1, h2⟩ := h; exact h2.held
theorem r_lkpN {S' : SpecT} {sl : List (Nat × EV)} {bx : List (Nat × List HV)} {H : Heap} {K : Env → Heap → Prop} {os : List SOper} {d b : Nat} {x y : Opd} {l : List Nm} {p : List UInt8} (hM : PM H b l) (hn : SN l) (hx : (M sl bx).hvs [x, y] = some [.v (.map (some b)), S p])
    (h : rsem S' os (M ((d, .h (.tu [ndO (getN l p), B (getN l p).isSome])) :: sl) bx) H K) : rsem S' (⟨some d, .hop (.m (.lkp true true true [.v (.bool false), .v (.int .i64 0)])) [x, y], none⟩ :: os) (M sl bx) H K := by
  obtain ⟨m, h1, h2⟩ := hM
  have hg := getN_perm h1 hn.nd p
  refine r_mop hx (mp_lkp h2 p true true _ (z' := .tu [ndO none, B false]) ?_ ?_)
  · rw [← hg] at h
    unfold getN at h
    generalize List.find? (fun n => n.path == p) m = o at h ⊢
    cases o <;> exact h
  · simp only [okd, if_true, mzero]
    exact Weak.refl _
theorem r_lkpN1 {S' : SpecT} {sl : List (Nat × EV)} {bx : List (Nat × List HV)} {H : Heap} {K : Env → Heap → Prop} {os : List SOper} {d b : Nat} {x y : Opd} {l : List Nm} {p : List UInt8} (hM : PM H b l) (hn : SN l) (hx : (M sl bx).hvs [x, y] = some [.v (.map (some b)), S p])
    (h : rsem S' os (M ((d, .h (ndO (getN l p))) :: sl) bx) H K) : rsem S' (⟨some d, .hop (.m (.lkp true false true [.v (.bool false), .v (.int .i64 0)])) [x, y], none⟩ :: os) (M sl bx) H K := by
  obtain ⟨m, h1, h2⟩ := hM
  have hg := getN_perm h1 hn.nd p
  refine r_mop hx (mp_lkp h2 p false true _ (z' := ndO none) ?_ ?_)
  · rw [← hg] at h
    unfold getN at h
    generalize List.find? (fun n => n.path == p) m = o at h ⊢
    cases o <;> exact h
  · exact Weak.refl _
/-- The same as a read. -/
theorem lkc_ev {H : Heap} {b : Nat} {l : List Nm} {p : List UInt8} {e : Env} {x y : Opd} (hM : PM H b l) (hn : SN l) (hx : e.hv x = some (.v (.map (some b)))) (hy : e.hv y = some (S p)) :
    (SOp.lkc true false true [.v (.bool false), .v (.int .i64 0)] x y).ev e H = some (.h (ndO (getN l p))) := by
  obtain ⟨m, h1, ⟨st, c, h2, h3, h4⟩, h5⟩ := hM
  have hg := getN_perm h1 hn.nd p
  rw [← hg]
  simp only [SOp.ev, hx, hy, isKey, if_true, h2]
  rw [mfind_mp p m st h3 0]
  unfold getN
  rw [← findIdx_find]
  cases hf : List.findIdx? (fun a => a.path == p) m with
  | none => rfl
  | some j =>
    have hj : j < m.length := (List.findIdx?_eq_some_iff_getElem.mp hf).1
    simp only [Option.bind_some, List.getElem?_eq_getElem hj, Option.map_some]
    rfl
/-- A file's cells. -/
abbrev flC (f : Fl) : List HV := [.sl .no 1 (f.b.map U), I f.safe]
def flsC (l : List Fl) : List HV := l.flatMap flC
theorem flsC_len : ∀ l : List Fl, (flsC l).length = l.length * 2
  | [] => rfl
  | f :: l => by
    have := flsC_len l
    simp only [flsC, List.flatMap_cons, List.length_append, List.length_cons, List.length_nil] at this ⊢
    omega
theorem flsC_split {l : List Fl} {i : Nat} (h : i < l.length) : flsC l = flsC (l.take i) ++ flC l[i] ++ flsC (l.drop (i + 1)) := by
  have e := (List.take_append_drop i l).symm
  rw [List.drop_eq_getElem_cons h] at e
  exact (congrArg flsC e).trans (by simp only [flsC, List.flatMap_append, List.flatMap_cons, List.append_assoc])
theorem flsC_one (l : List Fl) : (flsC l).all HV.one = true := by
  rw [List.all_eq_true]
  intro x hx
  obtain ⟨f, _, hf⟩ := List.mem_flatMap.mp hx
  simp only [List.mem_cons, List.not_mem_nil, or_false] at hf
  rcases hf with rfl | rfl <;> rfl
theorem flsC_drop {l : List Fl} {i : Nat} (h : i < l.length) (zs : List HV) : (flsC l ++ zs).drop (i * 2) = flC l[i] ++ (flsC (l.drop (i + 1)) ++ zs) := by
  have hl : (flsC (l.take i)).length = i * 2 := by rw [flsC_len, List.length_take]; congr 1; omega
  rw [flsC_split h, List.append_assoc, List.append_assoc, List.drop_append_of_le_length (by omega), List.drop_of_length_le (by omega), List.nil_append]
theorem load_fl0 {l : List Fl} {i off : Nat} (h : i < l.length) (ho : off = i * 2) (zs : List HV) : loadv false 1 off (flsC l ++ zs) = some (.sl .no 1 (l[i].b.map U)) := by
  subst ho
  unfold loadv
  rw [if_pos (by rw [List.length_append, flsC_len]; omega), flsC_drop h]; rfl
theorem load_fl1 {l : List Fl} {i off : Nat} (h : i < l.length) (ho : off = i * 2 + 1) (zs : List HV) : loadv false 1 off (flsC l ++ zs) = some (I l[i].safe) := by
  subst ho
  unfold loadv
  have : (flsC l ++ zs).drop (i * 2 + 1) = I l[i].safe :: (flsC (l.drop (i + 1)) ++ zs) := by
    rw [← List.drop_drop, flsC_drop h]; rfl
  rw [if_pos (by rw [List.length_append, flsC_len]; omega), this]; rfl
/-- Files, as an object; or there are none. -/
def FS (H : Heap) (v : HV) (l : List Fl) : Prop := (v = .v (.slice none 0 0) ∧ l = []) ∨
  ∃ fb c zs, v = .v (.slice (some ⟨fb, 0, none⟩) l.length c) ∧ H fb = some (.obj (flsC l ++ zs)) ∧ l.length ≤ c ∧ c ≤ maxLen ∧ zs.length = (c - l.length) * 2 ∧ zs.all HV.one = true
def fvb : HV → List Nat
  | .v (.slice (some a) _ _) => [a.block]
  | _ => []
theorem FS.fr {H H' : Heap} {bs : List Nat} {v : HV} {l : List Fl} (h : FS H v l) (hf : Fr bs H H') (hb : ∀ a ∈ fvb v, a ∉ bs) : FS H' v l := by
  rcases h with h | ⟨fb, c, zs, rfl, h2, h3⟩
  · exact .inl h
  · exact .inr ⟨fb, c, zs, rfl, hf.get (hb fb (by simp [fvb])) h2, h3⟩
theorem FS.held {H : Heap} {v : HV} {l : List Fl} (h : FS H v l) : ∀ a ∈ fvb v, ∃ r, H a = some r := by
  rcases h with ⟨rfl, _⟩ | ⟨fb, c, zs, rfl, h2, h3⟩
  · simp [fvb]
  · intro a ha; simp only [fvb, List.mem_singleton] at ha; subst ha; exact ⟨_, h2⟩
/-- Where a disk's parts lie. -/
structure Hd where
  ms : Nat
  mn : Nat
  fv : HV
def Hd.bs (h : Hd) (b : Nat) : List Nat := b :: h.ms :: h.mn :: fvb h.fv
structure KD (H : Heap) (b : Nat) (h : Hd) (d : Dk) : Prop where
  ob : H b = some (.obj [I d.room, .v (.map (some h.ms)), .v (.map (some h.mn)), .sl .no 2 (d.loose.map chgV), h.fv, B d.down, I d.ops, I d.fails, B d.done, I d.wrong])
  su : PM H h.ms d.sure
  no : PM H h.mn d.now
  fs : FS H h.fv d.f
  nd : (h.bs b).Nodup
theorem KD.fr {H H' : Heap} {bs : List Nat} {b : Nat} {h : Hd} {d : Dk} (k : KD H b h d) (hf : Fr bs H H') (hb : ∀ a ∈ h.bs b, a ∉ bs) : KD H' b h d :=
  ⟨hf.get (hb b (by simp [Hd.bs])) k.ob, k.su.fr hf (hb _ (by simp [Hd.bs])), k.no.fr hf (hb _ (by simp [Hd.bs])), k.fs.fr hf fun a ha => hb a (by simp [Hd.bs, ha]), k.nd⟩
theorem KD.fr0 {H H' : Heap} {b : Nat} {h : Hd} {d : Dk} (k : KD H b h d) (hf : Fr [] H H') : KD H' b h d := k.fr hf (by simp)
theorem KD.held {H : Heap} {b : Nat} {h : Hd} {d : Dk} (k : KD H b h d) : ∀ a ∈ h.bs b, ∃ r, H a = some r := by
  intro a ha
  simp only [Hd.bs, List.mem_cons] at ha
  rcases ha with rfl | rfl | rfl | ha
  · exact ⟨_, k.ob⟩
  · exact k.su.held
  · exact k.no.held
  · exact k.fs.held a ha
theorem KD.new {H : Heap} {b : Nat} {h : Hd} {d : Dk} (k : KD H b h d) {c : Nat} (hc : H c = none) : c ∉ h.bs b := fun hm => by
  obtain ⟨r, hr⟩ := k.held c hm
  rw [hc] at hr; cases hr
/-- The address of a file. -/
def fpV (v : HV) (i : Nat) : HV := match v with
  | .v (.slice (some ⟨b, off, none⟩) _ _) => .v (.pointer (some ⟨b, off + i * 2, none⟩))
  | _ => .v (.pointer none)
/-- The errors that come ahead of all others. -/
def askL : List (List UInt8) → Int
  | [] => 0
  | p :: ps => if chkP p ≠ 0 then chkP p else askL ps
def askD (d : Dk) (ps : List (List UInt8)) : Int := if d.down then 11 else askL ps
theorem askD_one (d : Dk) (p : List UInt8) : askD d [p] = d.asked p := by
  unfold askD Dk.asked
  split
  · rfl
  · simp only [askL]; split
    · rfl
    · rename_i h; simpa using (by simpa using h : chkP p = 0).symm
attribute [local irreducible] csem rsem dsem seqK blockK normK finK DK RK JK BR G3 resK Spec Tok Fr CV

theorem asked_spec (L : Linked code) (b : Nat) (h : Hd) (d : Dk) (tk : Tk) (ps : List (List UInt8)) (hp : ∀ p ∈ ps, p.length ≤ 1048576) (hl : ps.length ≤ 1048576) (H : Heap) (hD : KD H b h d) (K) (hk : ∀ X, Fr [] H X → K (I (askD d ps)) X) : Spec L.P L.ν 333 [ptr b, .sl tk 1 (ps.map S)] H K := by
  have ob := hD.ob
  unfold askD at hk
  refine go_spec L code333 rfl ?_
  repeat (refine gk entU ?_)
  cases c1 : d.down
  case true =>
    rw [c1] at hk
    repeat (refine gk entU ?_)
    exact resK_some (hk H (Fr.refl _ _))
  rw [c1] at hk
  simp only [Bool.false_eq_true, if_false] at hk
  repeat (refine gk entU ?_)
  refine c_loop (Spec_SMono L) (fun (i : Nat) => [(16, .h (.sl tk 1 (ps.map S))), (17, .h (I ps.length)), (18, .h (I i))]) (fun _ => []) (fun i X => i ≤ ps.length ∧ Fr [] H X ∧ askL (ps.drop i) = askL ps) (fun i => ps.length - i) 0 ?_ ⟨by omega, Fr.refl _ _, rfl⟩ ?_
  · (refine leM ?_ ?_ ?_ <;> (repeat refine leS trivial ?_) <;> exact leE)
  rintro i X ⟨hi, hf, ha⟩
  repeat (refine gk entU ?_)
  (refine ct entU ?_ ?_ <;> intro hc)
  · have hi' : i < ps.length := by simpa using hc
    rw [List.drop_eq_getElem_cons hi', askL] at ha
    repeat (refine gk entU ?_)
    (apply r_call; (focus rfl))
    refine pcheck_spec L ps[i] (hp _ (List.getElem_mem hi')) _ _ fun X1 f1 => ?_
    cases c2 : chkP ps[i] != 0
    case true =>
      have c2' : chkP ps[i] ≠ 0 := by simpa using c2
      rw [if_pos c2'] at ha
      rw [← ha] at hk
      repeat (refine gk (And.intro entU c2) ?_)
      exact resK_some (hk X1 (hf.trans f1))
    have c2' : ¬ chkP ps[i] ≠ 0 := by simpa using c2
    rw [if_neg c2'] at ha
    repeat (refine gk (And.intro entU c2) ?_)
    refine k_n (i + 1) (by omega) ⟨by omega, hf.trans f1, ha⟩ ?_
    (refine leM ?_ ?_ ?_ <;> (repeat refine leS trivial ?_) <;> exact leE)
  · have hi' : i = ps.length := by have : ¬ i < ps.length := by simpa using hc
                                   omega
    subst hi'
    rw [List.drop_length, askL] at ha
    rw [← ha] at hk
    repeat (refine gk entU ?_)
    exact resK_some (hk X hf)
theorem asked0_spec (L : Linked code) (b : Nat) (h : Hd) (d : Dk) (H : Heap) (hD : KD H b h d) (K) (hk : ∀ X, Fr [] H X → K (I (if d.down then 11 else 0)) X) : Spec L.P L.ν 333 [ptr b, .v (.slice none 0 0)] H K :=
  Spec.args (args' := [ptr b, .sl .full 1 (([] : List (List UInt8)).map S)]) ⟨Weak.refl _, Weak.nil 1, trivial⟩ (asked_spec L b h d .full [] (by simp) (by simp) H hD K hk)
theorem dparent_spec (L : Linked code) (b : Nat) (h : Hd) (d : Dk) (p : List UInt8) (hp : p.length ≤ 1048576) (hs : SN d.now) (H : Heap) (hD : KD H b h d) (K) (hk : K (I (parD d.now p)) H) : Spec L.P L.ν 350 [ptr b, S p] H K := by
  have ob := hD.ob
  unfold parD at hk
  refine go_spec L code350 rfl ?_
  repeat (refine gk entU ?_)
  (apply r_call; (focus rfl))
  refine parent_spec L p hp _ _ ?_
  repeat (refine gk entU ?_)
  cases c1 : (parL p == [])
  case true =>
    have c1' : parL p = [] := by simpa using c1
    rw [if_pos c1'] at hk
    repeat (refine gk entU ?_)
    exact resK_some hk
  have c1' : parL p ≠ [] := by simpa using c1
  rw [if_neg c1'] at hk
  repeat (refine gk entU ?_)
  apply r_lkpN hD.no hs; (focus rfl)
  repeat (refine gk entU ?_)
  cases c2 : getN d.now (parL p) with
  | none =>
    rw [c2] at hk
    simp only [Option.isSome_none, Bool.not_false]
    repeat (refine gk entU ?_)
    exact resK_some hk
  | some x =>
    rw [c2] at hk
    simp only [Option.isSome_some, Bool.not_true]
    repeat (refine gk entU ?_)
    simp only [dirO] at hk ⊢
    cases c3 : x.dir
    case true =>
      rw [c3] at hk
      simp only [Bool.not_true]
      repeat (refine gk entU ?_)
      exact resK_some hk
    rw [c3] at hk
    simp only [Bool.not_false]
    repeat (refine gk entU ?_)
    exact resK_some hk
theorem dfile_spec (L : Linked code) (b : Nat) (h : Hd) (d : Dk) (p : List UInt8) (hs : SN d.now) (hid : ∀ x ∈ d.now, x.dir = false → x.id < d.f.length) (H : Heap) (hD : KD H b h d) (K) (hk : K (.tu [if fileD d.now p = 0 then fpV h.fv (idD d.now p) else .v (.pointer none), I (fileD d.now p)]) H) : Spec L.P L.ν 332 [ptr b, S p] H K := by
  have ob := hD.ob
  unfold fileD idD at hk
  refine go_spec L code332 rfl ?_
  repeat (refine gk entU ?_)
  apply r_lkpN hD.no hs; (focus rfl)
  repeat (refine gk entU ?_)
  cases c2 : getN d.now p with
  | none =>
    rw [c2] at hk
    simp only [Option.isSome_none, Bool.not_false]
    repeat (refine gk entU ?_)
    exact resK_some hk
  | some x =>
    rw [c2] at hk
    simp only [Option.isSome_some, Bool.not_true]
    repeat (refine gk entU ?_)
    simp only [dirO, idO] at hk ⊢
    cases c3 : x.dir
    case true =>
      rw [c3] at hk
      repeat (refine gk entU ?_)
      exact resK_some hk
    rw [c3] at hk
    have hlt := hid x (getN_mem c2).1 c3
    rcases hD.fs with ⟨_, h0⟩ | ⟨fb, c, zs, e1, h1, _⟩
    · rw [h0] at hlt; exact absurd hlt (Nat.not_lt_zero _)
    rw [e1] at ob hk
    repeat (refine gk entU ?_)
    apply r_idxO; (focus rfl); (focus rfl); (focus omega)
    repeat (refine gk entU ?_)
    refine resK_some ?_
    show K (.tu [_, _]) H
    simpa [fpV] using hk
end Sm

set_option linter.unusedVariables false
set_option linter.unusedSimpArgs false
set_option maxRecDepth 10000
set_option maxHeartbeats 1000000
namespace Sm
open Go
-- BASE dkU
theorem dkU : (∀ e : Ent, encE e = .ag [S e.path, B e.dir, .sl .no 1 (e.data.map U)]) ∧ ndP none = .v (.pointer none) ∧ (∀ x, ndP (some x) = .rp [B x.dir, I x.id]) ∧ (∀ c, chgV c = .ag [.sl .no 1 (c.ps.map fun q => S q.1), .sl .no 1 (c.ps.map fun q => ndP q.2)]) := ⟨fun _ => rfl, rfl, fun _ => rfl, fun _ => rfl⟩
theorem sub_upd {X : Heap} {b : Nat} {cs' cs : List HV} (hx : X b = some (.obj cs')) (hw : WeakL cs' cs) (h1 : cs.all HV.one = true) : (X.upd b (some (.obj cs))).sub X := by
  intro a r hr
  by_cases h : a = b
  · subst h
    rw [Heap.upd_same] at hr; cases hr
    exact ⟨_, hx, .inr ⟨hw, h1⟩⟩
  · rw [Heap.upd_ne _ _ h] at hr
    exact ⟨r, hr, .inl rfl⟩
/-- The counters. -/
def Dk.ctr (d : Dk) (ops : Nat) (fails wrong : Int) (down : Bool) : Dk := { d with ops := ops, fails := fails, wrong := wrong, down := down }
theorem KD.cell {H X : Heap} {b : Nat} {h : Hd} {d d' : Dk} (k : KD H b h d) (hf : Fr [b] H X) (hx : X b = some (.obj [I d'.room, .v (.map (some h.ms)), .v (.map (some h.mn)), .sl .no 2 (d'.loose.map chgV), h.fv, B d'.down, I d'.ops, I d'.fails, B d'.done, I d'.wrong]))
    (e1 : d'.sure = d.sure) (e2 : d'.now = d.now) (e3 : d'.f = d.f) : KD X b h d' := by
  have hn := k.nd
  simp only [Hd.bs, List.nodup_cons, List.mem_cons, not_or] at hn
  refine ⟨hx, by rw [e1]; exact k.su.fr hf (by simpa using fun e => hn.1.1 e.symm), by rw [e2]; exact k.no.fr hf (by simpa using fun e => hn.1.2.1 e.symm), by rw [e3]; exact k.fs.fr hf (fun a ha hm => by rw [List.mem_singleton] at hm; subst hm; exact hn.1.2.2 ha), k.nd⟩
theorem Own.cell {H X : Heap} {b : Nat} {h : Hd} (hf : Fr [b] H X) : Own H X (h.bs b) (h.bs b) := Own.set hf (by simp [Hd.bs])
theorem load_at {cs : List HV} {off : Nat} {v : HV} (h : cs[off]? = some v) : loadv false 1 off cs = some v := by
  obtain ⟨hl, he⟩ := List.getElem?_eq_some_iff.mp h
  unfold loadv
  rw [if_pos (by omega), List.drop_eq_getElem_cons hl, he]; rfl
/-- The first of a slice, and no more room. -/
theorem r_slcT {S' : SpecT} {sl : List (Nat × EV)} {bx : List (Nat × List HV)} {H : Heap} {K : Env → Heap → Prop} {os : List SOper} {d : Nat} {sz : Nat} {x hi mx : Opd} {tk : Tk} {es : List HV} {n n' : Int} {k : Nat} (hx : (M sl bx).hv x = some (.sl tk sz es)) (h1 : (M sl bx).hv hi = some (I n)) (h2 : (M sl bx).hv mx = some (I n')) (e1 : n = k) (e2 : n' = k) (hk : k ≤ es.length)
    (h : rsem S' os (M ((d, .h (.sl .full sz (es.take k))) :: sl) bx) H K) : rsem S' (⟨some d, .slc sz x none (some hi) (some mx), none⟩ :: os) (M sl bx) H K := by
  subst e1 e2
  refine r_calm rfl ?_ h
  simp only [SOp.ev, hx, bnd, h1, h2]
  rw [if_pos ⟨trivial, by omega, by omega, by omega⟩]
  simp
theorem ps_path : ∀ {c : Chg} {q : List UInt8 × Option Nm}, q ∈ c.ps → ∀ x, q.2 = some x → x.path = q.1 := by
  intro c q hq x hx
  cases c with
  | mk y => simp only [Chg.ps, List.mem_singleton] at hq; subst hq; cases hx; rfl
  | rm y => simp only [Chg.ps, List.mem_singleton] at hq; subst hq; cases hx
  | mv y z p =>
    simp only [Chg.ps, List.mem_cons, List.not_mem_nil, or_false] at hq
    rcases hq with rfl | rfl
    · cases hx
    · cases hx; rfl
theorem ps_len (c : Chg) : c.ps.length ≤ 2 := by cases c <;> simp [Chg.ps]
attribute [local irreducible] csem rsem dsem seqK blockK normK finK DK RK JK BR G3 resK Spec Tok Fr CV

theorem tick_spec (L : Linked code) (b off : Nat) (cs : List HV) (n : Int) (hn : -1 ≤ n ∧ n ≤ 9223372036854775807) (H : Heap) (hb : H b = some (.obj cs)) (hc : cs[off]? = some (I n)) (K) (hk : ∀ X, X b = some (.obj (cs.set off (I (tickD n)))) → Fr [b] H X → K (B (n == 0)) X) :
    Spec L.P L.ν 365 [.v (.pointer (some ⟨b, off, none⟩))] H K := by
  have hl := load_at hc
  have hlt : off < cs.length := (List.getElem?_eq_some_iff.mp hc).1
  refine go_spec L code365 rfl ?_
  repeat (refine gk dkU ?_)
  apply r_load; (focus rfl); (focus exact hb); (focus exact hl)
  repeat (refine gk dkU ?_)
  cases c1 : (n == -1)
  case true =>
    have c1' : n = -1 := by simpa using c1
    subst c1'
    repeat (refine gk (And.intro dkU c1) ?_)
    refine resK_some (hk H ?_ (Fr.refl _ _))
    have : cs.set off (I (tickD (-1))) = cs := by
      apply List.ext_getElem?
      intro i
      rw [List.getElem?_set]
      split
      · rename_i e; subst e; rw [hc]; rfl
      · rfl
    rw [this]; exact hb
  have c1' : n ≠ -1 := by simpa using c1
  have ht : tickD n = n - 1 := if_neg c1'
  repeat (refine gk (And.intro dkU c1) ?_)
  apply r_load; (focus rfl); (focus exact hb); (focus exact hl)
  repeat (refine gk dkU ?_)
  apply r_storeX; (focus rfl); (focus rfl); (focus rfl); (focus rfl); (focus exact hb); (focus exact Nat.ble_eq.mpr hlt); (focus rfl)
  intro X x1 f1
  repeat (refine gk dkU ?_)
  have x1' : X b = some (.obj (cs.set off (I (n - 1)))) := x1
  have hl2 : loadv false 1 off (cs.set off (I (n - 1))) = some (I (n - 1)) := load_at (by rw [List.getElem?_set_self hlt])
  apply r_load; (focus rfl); (focus exact x1'); (focus exact hl2)
  repeat (refine gk dkU ?_)
  have e : (n - 1 == -1) = (n == 0) := by
    by_cases h : n = 0
    · subst h; rfl
    · rw [beq_false_of_ne h, beq_false_of_ne (by omega)]
  rw [e]
  repeat (refine gk dkU ?_)
  exact resK_some (hk X (by rw [ht]; exact x1') f1)
theorem apply_spec' (L : Linked code) (b : Nat) (l : List Nm) (c : Chg) (hs : SN l) (hc : okC l c) (H : Heap) (hM : PM H b l) (K) (hk : ∀ X, PM X b (appC l c) → Fr [b] H X → K (.tu []) X) : Spec L.P L.ν 330 [.v (.map (some b)), chgV c] H K := by
  obtain ⟨m, hp, hm⟩ := hM
  have hfin := apM_perm hp hs hc
  have hlen := ps_len c
  refine go_spec L code330 rfl ?_
  repeat (refine gk dkU ?_)
  refine c_loop (Spec_SMono L) (fun (i : Nat) => [(0, .h (.v (.map (some b)))), (3, .lp 0 0), (7, .h (.sl .no 1 (c.ps.map fun q => S q.1))), (8, .h (I c.ps.length)), (9, .h (I i))]) (fun _ => [(0, [.sl .no 1 (c.ps.map fun q => S q.1), .sl .no 1 (c.ps.map fun q => ndP q.2)])])
    (fun i X => i ≤ c.ps.length ∧ Fr [b] H X ∧ MP X b Nm.path ndV ((c.ps.take i).foldl apM m)) (fun i => c.ps.length - i) 0 ?_ ⟨by omega, Fr.refl _ _, by simpa using hm⟩ ?_
  · (refine leM ?_ ?_ ?_ <;> (repeat refine leS trivial ?_) <;> exact leE)
  rintro i X ⟨hi, hf, hX⟩
  repeat (refine gk dkU ?_)
  (refine ct dkU ?_ ?_ <;> intro hcc)
  · have hi' : i < c.ps.length := by simpa using hcc
    have ht : (c.ps.take (i + 1)).foldl apM m = apM ((c.ps.take i).foldl apM m) c.ps[i] := by
      rw [List.take_succ_eq_append_getElem hi', List.foldl_append]; rfl
    have hq := ps_path (List.getElem_mem hi')
    generalize hg : c.ps[i] = q at ht hq
    obtain ⟨p, o⟩ := q
    cases o with
    | none =>
      repeat (refine gk (And.intro dkU hg) ?_)
      refine r_mop0 rfl (mp_del hX p fun X1 h1 f1 => ?_)
      repeat (refine gk dkU ?_)
      refine k_n (i + 1) (by omega) ⟨by omega, hf.trans f1, by rw [ht]; exact h1⟩ ?_
      (refine leM ?_ ?_ ?_ <;> (repeat refine leS trivial ?_) <;> exact leE)
    | some x =>
      have hxp : x.path = p := hq x rfl
      subst hxp
      repeat (refine gk (And.intro dkU hg) ?_)
      refine r_mop0 rfl (mp_upd hX x fun X1 h1 f1 => ?_)
      repeat (refine gk dkU ?_)
      refine k_n (i + 1) (by omega) ⟨by omega, hf.trans f1, by rw [ht]; exact h1⟩ ?_
      (refine leM ?_ ?_ ?_ <;> (repeat refine leS trivial ?_) <;> exact leE)
  · have hi' : i = c.ps.length := by have : ¬ i < c.ps.length := by simpa using hcc
                                     omega
    subst hi'
    rw [List.take_length] at hX
    repeat (refine gk dkU ?_)
    exact resK_some (hk X ⟨_, hfin, hX⟩ hf)
theorem drename_spec (L : Linked code) (b : Nat) (h : Hd) (d : Dk) (c : Chg) (hs : SN d.now) (hc : okC d.now c) (hl : d.loose.length < 1048576) (H : Heap) (hD : KD H b h d) (K) (hk : ∀ X, KD X b h (d.chg c) → Own H X (h.bs b) (h.bs b) → K (.tu []) X) : Spec L.P L.ν 364 [ptr b, chgV c] H K := by
  have ob := hD.ob
  have hn := hD.nd
  simp only [Hd.bs, List.nodup_cons, List.mem_cons, not_or] at hn
  refine go_spec L code364 rfl ?_
  repeat (refine gk dkU ?_)
  (apply r_call; (focus rfl))
  refine apply_spec' L h.mn d.now c hs hc H hD.no _ fun X1 m1 f1 => ?_
  have ob1 := f1.get (a := b) (by simpa using hn.1.2.1) ob
  repeat (refine gk dkU ?_)
  apply r_slcT (k := (d.loose.map chgV).length); (focus rfl); (focus rfl); (focus rfl); (focus simp); (focus simp); (focus exact Nat.le_refl _)
  rw [List.take_length]
  repeat (refine gk dkU ?_)
  apply r_app; (focus rfl); (focus rfl); (focus exact Tok.ful2 _ _ _); (focus (simp; omega))
  intro tk X2 k1 k2
  have f2 := k2.fr0
  have ob2 := f2.get (by simp) ob1
  repeat (refine gk dkU ?_)
  refine sxk dkU ?_
  intro X3 x3 f3
  repeat (refine gk dkU ?_)
  have e3 : (d.loose.map chgV) ++ [chgV c] = (d.chg c).loose.map chgV := by simp [Dk.chg]
  have x3' : X3 b = some (.obj [I d.room, .v (.map (some h.ms)), .v (.map (some h.mn)), .sl tk 2 ((d.chg c).loose.map chgV), h.fv, B d.down, I d.ops, I d.fails, B d.done, I d.wrong]) := by rw [← e3]; exact x3
  refine resK_sub (Weak.refl _) (sub_upd (cs := [I d.room, .v (.map (some h.ms)), .v (.map (some h.mn)), .sl .no 2 ((d.chg c).loose.map chgV), h.fv, B d.down, I d.ops, I d.fails, B d.done, I d.wrong]) x3' ⟨Weak.refl _, Weak.refl _, Weak.refl _, Weak.drop _ _ _, Weak.refl _, Weak.refl _, Weak.refl _, Weak.refl _, Weak.refl _, Weak.refl _, trivial⟩ ?_) (hk _ ?_ ?_)
  · rcases hD.fs with ⟨e, _⟩ | ⟨fb, c, zs, e, _⟩ <;> rw [e] <;> rfl
  · have f4 : Fr [b] X1 (X3.upd b (some (.obj [I d.room, .v (.map (some h.ms)), .v (.map (some h.mn)), .sl .no 2 ((d.chg c).loose.map chgV), h.fv, B d.down, I d.ops, I d.fails, B d.done, I d.wrong]))) := ((f2.mono (by simp)).trans f3).trans (Fr.set (by simp))
    have hbb : ∀ a, a ≠ b → a ∉ [b] := fun a h => by simpa using h
    refine ⟨Heap.upd_same _ _ _, (hD.su.fr f1 (by simpa using hn.2.1.1)).fr f4 (hbb _ fun e => hn.1.1 e.symm), ?_, (hD.fs.fr f1 fun a ha hm => ?_).fr f4 fun a ha hm => ?_, hD.nd⟩
    · have : (d.chg c).now = appC d.now c := appAll_snoc _ _ _
      rw [this]
      exact m1.fr f4 (hbb _ fun e => hn.1.2.1 e.symm)
    · rw [List.mem_singleton] at hm; subst hm; exact hn.2.2.1 ha
    · rw [List.mem_singleton] at hm; subst hm; exact hn.1.2.2 ha
  · refine Own.set (cs := [b, h.mn]) ?_ (by simp [Hd.bs])
    exact ((f1.mono (by simp)).trans (f2.mono (by simp))).trans ((f3.mono (by simp)).trans (Fr.set (by simp)))
theorem step_spec (L : Linked code) (b : Nat) (h : Hd) (d next : Dk) (ho : d.ops < 4611686018427387904) (hfa : -1 ≤ d.fails ∧ d.fails ≤ 9223372036854775807) (hwr : -1 ≤ d.wrong ∧ d.wrong ≤ 9223372036854775807) (hdn : next.down = d.down) (f : HV) (H : Heap) (hD : KD H b h d)
    (hdo : ∀ ops fails wrong down X, KD X b h (d.ctr ops fails wrong down) → Own H X (h.bs b) (h.bs b) → ∀ K, (∀ Y h' r, KD Y b h' (next.ctr ops fails wrong down) → Own X Y (h.bs b) (h'.bs b) → K r Y) → CV L f [] X K)
    (K) (hk : ∀ Y h', KD Y b h' (d.step next).1 → Own H Y (h.bs b) (h'.bs b) → K (I (d.step next).2) Y) : Spec L.P L.ν 335 [ptr b, f] H K := by
  have ob := hD.ob
  have tb := tickD_ok hfa
  unfold Dk.step at hk
  refine go_spec L code335 rfl ?_
  repeat (refine gk dkU ?_)
  refine sxk dkU ?_
  intro X1 x1 f1
  have d1 : KD X1 b h (d.ctr (d.ops + 1) d.fails d.wrong d.down) := hD.cell f1 x1 rfl rfl rfl
  have ob1 := d1.ob
  repeat (refine gk dkU ?_)
  (apply r_call; (focus rfl))
  refine tick_spec L b _ _ d.fails hfa X1 ob1 rfl _ fun X2 x2 f2 => ?_
  have d2 : KD X2 b h (d.ctr (d.ops + 1) (tickD d.fails) d.wrong d.down) := d1.cell f2 x2 rfl rfl rfl
  have ob2 := d2.ob
  repeat (refine gk dkU ?_)
  (apply r_call; (focus rfl))
  refine tick_spec L b _ _ d.wrong hwr X2 ob2 rfl _ fun X3 x3 f3 => ?_
  have d3 : KD X3 b h (d.ctr (d.ops + 1) (tickD d.fails) (tickD d.wrong) d.down) := d2.cell f3 x3 rfl rfl rfl
  have ob3 := d3.ob
  have o3 : Own H X3 (h.bs b) (h.bs b) := Own.cell ((f1.trans f2).trans f3)
  repeat (refine gk dkU ?_)
  cases c1 : (d.fails == 0)
  case true =>
    have c1' : d.fails = 0 := by simpa using c1
    rw [if_pos c1'] at hk
    repeat (refine gk dkU ?_)
    refine sxk dkU ?_
    intro X4 x4 f4
    have d4 : KD X4 b h (d.ctr (d.ops + 1) (tickD d.fails) (tickD d.wrong) true) := d3.cell f4 x4 rfl rfl rfl
    have ob4 := d4.ob
    have o4 := o3.trans (Own.cell (h := h) f4)
    repeat (refine gk dkU ?_)
    cases c2 : d.done
    case false =>
      have e : (d.ctr (d.ops + 1) (tickD d.fails) (tickD d.wrong) true).done = false := c2
      rw [c2] at hk
      simp only [Bool.false_eq_true, if_false] at hk
      rw [e]
      repeat (refine gk dkU ?_)
      exact resK_some (hk X4 h (by have d5 := d4; unfold Dk.ctr at d5; rw [c2] at d5; exact d5) o4)
    have e : (d.ctr (d.ops + 1) (tickD d.fails) (tickD d.wrong) true).done = true := c2
    rw [c2] at hk
    simp only [if_true] at hk
    rw [e]
    repeat (refine gk dkU ?_)
    refine r_callF L rfl rfl ?_
    refine hdo _ _ _ _ X4 d4 o4 _ fun Y h' r d5 o5 => ?_
    repeat (refine gk dkU ?_)
    exact resK_some (hk Y h' d5 (o4.trans o5))
  have c1' : d.fails ≠ 0 := by simpa using c1
  rw [if_neg c1'] at hk
  repeat (refine gk dkU ?_)
  cases c2 : (d.wrong == 0)
  case true =>
    have c2' : d.wrong = 0 := by simpa using c2
    rw [if_pos c2'] at hk
    repeat (refine gk dkU ?_)
    exact resK_some (hk X3 h d3 o3)
  have c2' : d.wrong ≠ 0 := by simpa using c2
  rw [if_neg c2'] at hk
  repeat (refine gk dkU ?_)
  refine r_callF L rfl rfl ?_
  refine hdo _ _ _ _ X3 d3 o3 _ fun Y h' r d5 o5 => ?_
  rw [← hdn] at d5
  repeat (refine gk dkU ?_)
  exact resK_some (hk Y h' d5 (o3.trans o5))
end Sm

set_option linter.unusedVariables false
set_option linter.unusedSimpArgs false
set_option maxRecDepth 10000
set_option maxHeartbeats 1000000
namespace Sm
open Go
-- BASE dkU
/-- A heap may be told in a weaker way ahead of a call. -/
theorem Spec.sub {P : Program} {ν : Nat → Option Nat} {g : Nat} {args : List HV} {X X' : Heap} {Q : HV → Heap → Prop} (hs : X'.sub X) (h : Spec P ν g args X' Q) : Spec P ν g args X Q := by
  intro n hn w K us hst hr
  refine (h n hn w K us (hsat_sub hst hs) hr).mono fun e w' ⟨u, r, Y, K', e1, e2, e3, e4, e5⟩ => ?_
  exact ⟨u, r, Y, K', e1, e2, e3, ⟨e4.os, e4.tape, e4.output, e4.size, e4.drawn, e4.grow, fun b hb hX => e4.same b hb (sub_none hs hX)⟩, e5⟩
/-- One more file, empty. -/
theorem r_appF {S' : SpecT} {sl : List (Nat × EV)} {bx : List (Nat × List HV)} {H : Heap} {K : Env → Heap → Prop} {os : List SOper} {d : Nat} {x y : Opd} {tk : Tk} {v : HV} {l : List Fl} (hx : (M sl bx).hv x = some v) (hy : (M sl bx).hv y = some (.sl tk 2 [.ag [.v (.slice none 0 0), I 0]])) (hF : FS H v l) (hl : l.length < 1048576)
    (hk : ∀ fb c zs X, X fb = some (.obj (flsC l ++ [.v (.slice none 0 0), I 0] ++ zs)) → l.length + 1 ≤ c → c ≤ maxLen → zs.length = (c - (l.length + 1)) * 2 → zs.all HV.one = true → Fr (fvb v) H X → (fb ∈ fvb v ∨ H fb = none) → rsem S' os (M ((d, .h (.v (.slice (some ⟨fb, 0, none⟩) (l.length + 1) c))) :: sl) bx) X K) :
    rsem S' (⟨some d, .app 2 32 x y, none⟩ :: os) (M sl bx) H K := by
  have hr : rdm H 2 (.sl tk 2 [.ag [.v (.slice none 0 0), I 0]]) = some (1, [.v (.slice none 0 0), I 0]) := rfl
  rcases hF with ⟨rfl, rfl⟩ | ⟨fb, c, zs, rfl, h1, h2, h3, h4, h5⟩
  · refine r_appN hx hy hr (by decide) (by decide) fun b' c' zs X k1 k2 k3 k4 k5 k6 k7 => ?_
    exact hk b' c' zs X k6 k2 k3 k4 k5 (k7.mono (by simp)) (.inr k1)
  · refine r_appO hx hy hr h1 h2 (by rw [List.length_append, flsC_len, h4]; omega) (by omega) (fun hc X k1 k2 => ?_) fun hc b' c' zs' X k1 k2 k3 k4 k5 k6 k7 => ?_
    · refine hk fb c (zs.drop 2) X ?_ hc h3 (by rw [List.length_drop]; omega) (List.all_eq_true.mpr fun x hx => List.all_eq_true.mp h5 x (List.mem_of_mem_drop hx)) (k2.mono (by simp [fvb])) (.inl (by simp [fvb]))
      rw [k1]
      congr 2
      rw [setL_eq _ _ _ (by simp only [List.length_append, flsC_len, List.length_cons, List.length_nil]; omega)]
      have e1 : (flsC l ++ zs).take (0 + l.length * 2) = flsC l := by rw [Nat.zero_add, ← flsC_len, List.take_left]
      rw [e1]
      congr 1
      rw [Nat.zero_add, ← flsC_len, List.drop_append]
      have e2 : (flsC l).drop ((flsC l).length + [HV.v (Value.slice none 0 0), I 0].length) = [] := List.drop_eq_nil_of_le (by omega)
      rw [e2, List.nil_append]
      congr 1
      simp
    · refine hk b' c' zs' X ?_ k2 k3 k4 k5 (k7.mono (by simp)) (.inr k1)
      rw [k6]
      have e1 : ((flsC l ++ zs).drop 0).take (l.length * 2) = flsC l := by rw [List.drop_zero, ← flsC_len, List.take_left]
      rw [e1]
theorem WeakL.app : ∀ {a b c d : List HV}, WeakL a b → WeakL c d → WeakL (a ++ c) (b ++ d)
  | [], [], _, _, _, h => h
  | x :: a, y :: b, _, _, h, k => ⟨h.1, WeakL.app h.2 k⟩
  | [], _ :: _, _, _, h, _ => h.elim
  | _ :: _, [], _, _, h, _ => h.elim
theorem Own.sub {H X : Heap} {bs bs' cs : List Nat} (h : Own H X bs bs') (hs : ∀ a ∈ cs, a ∈ bs') : Own H X bs cs := ⟨h.fr, fun a ha => h.nw a (hs a ha)⟩
attribute [local irreducible] csem rsem dsem seqK blockK normK finK DK RK JK BR G3 resK Spec Tok Fr CV

theorem dput1_spec (L : Linked code) (b c3 c4 c5 : Nat) (h : Hd) (d : Dk) (p : List UInt8) (dir : Bool) (hs : SN d.now) (hlen : d.loose.length < 1048576) (hfl : d.f.length < 1048576) (hp : getN d.now p = none) (X : Heap) (hD : KD X b h d) (x3 : X c3 = some (.obj [ptr b])) (x4 : X c4 = some (.obj [S p])) (x5 : X c5 = some (.obj [B dir]))
    (n3 : c3 ∉ h.bs b) (n4 : c4 ∉ h.bs b) (n5 : c5 ∉ h.bs b)
    (K) (hk : ∀ Y h' r, KD Y b h' (Dk.chg { d with f := if dir then d.f else d.f ++ [⟨[], 0⟩] } (.mk ⟨p, dir, if dir then 0 else d.f.length⟩)) → Own X Y (h.bs b) (h'.bs b) → K r Y) : Spec L.P L.ν 366 [ptr c5, ptr c3, ptr c4] X K := by
  have hok : okC d.now (.mk ⟨p, dir, if dir then 0 else d.f.length⟩) := ⟨fun z hz n hn he => by
    simp only [Chg.came, List.mem_singleton] at hz; subst hz; exact absurd he (getN_none hp n hn), trivial⟩
  refine go_spec L code366 rfl ?_
  repeat (refine gk dkU ?_)
  refine bxk dkU ?_
  intro cx X1 hcx x1 f1 _
  have nx := hD.new hcx
  have hD1 := hD.fr0 f1
  have ob1 := hD1.ob
  have x3' := f1.get (by simp) x3
  have x4' := f1.get (by simp) x4
  have x5' := f1.get (by simp) x5
  cases dir with
  | true =>
    simp only [if_true] at hk hok
    repeat (refine gk dkU ?_)
    try simp only [Bool.not_true]
    repeat (refine gk dkU ?_)
    (apply r_call; (focus rfl))
    refine Spec.lay (b := cx) x1 (args' := [ptr b, chgV (.mk ⟨p, true, 0⟩)]) ⟨FW.refl _ _ _, FW.ag (ys := [.sl .no 1 [S p], .sl .no 1 [.rp [B true, I 0]]]) ⟨FW.of (Weak.drop _ _ _), FW.sl ⟨FW.ptr, trivial⟩ rfl (by simp [HV.ncells]), trivial⟩ rfl, trivial⟩ ?_
    refine drename_spec L b h d _ hs hok (by omega) _ ?_ _ fun Y hY oY => ?_
    · exact hD1.fr (bs := [cx]) (Fr.set (by simp)) (fun a ha hm => by rw [List.mem_singleton] at hm; subst hm; exact nx ha)
    repeat (refine gk dkU ?_)
    refine resK_some (hk Y h _ hY (Own.ahead (c := cx) hcx f1 ?_))
    have o1 : Own X1 (X1.upd cx none) (cx :: h.bs b) (h.bs b) := ⟨Fr.set (by simp), fun a ha => .inl (by simp [ha])⟩
    exact o1.trans oY
  | false =>
    simp only [Bool.false_eq_true, if_false] at hk hok
    have hlenF : ∀ (K' : Env → Heap → Prop) (sl : List (Nat × EV)) (bx : List (Nat × List HV)) (os : List SOper) (dd : Nat) (xx : Opd), (M sl bx).hv xx = some h.fv → rsem (Spec L.P L.ν) os (M ((dd, .h (I d.f.length)) :: sl) bx) X1 K' → rsem (Spec L.P L.ν) (⟨some dd, .len xx, none⟩ :: os) (M sl bx) X1 K' := by
      intro K' sl bx os dd xx hxx hr
      refine r_calm rfl ?_ hr
      rcases hD1.fs with ⟨e1, e2⟩ | ⟨fb, c, zs, e1, _⟩
      · rw [e1] at hxx; simp only [SOp.ev, hxx, e2]; rfl
      · rw [e1] at hxx; simp only [SOp.ev, hxx]
    try simp only [Bool.not_false]
    repeat (refine gk dkU ?_)
    try simp only [Bool.not_false]
    repeat (refine gk dkU ?_)
    refine hlenF _ _ _ _ _ _ rfl ?_
    repeat (refine gk dkU ?_)
    refine sxk dkU ?_
    intro X2 x2 f2
    have hD2 := hD1.fr (bs := [cx]) f2 (fun a ha hm => by rw [List.mem_singleton] at hm; subst hm; exact nx ha)
    have ob2 := hD2.ob
    have n3x : c3 ≠ cx := fun e => by subst e; rw [hcx] at x3; cases x3
    have n4x : c4 ≠ cx := fun e => by subst e; rw [hcx] at x4; cases x4
    have x3'' := f2.get (by simpa using n3x) x3'
    have x4'' := f2.get (by simpa using n4x) x4'
    repeat (refine gk dkU ?_)
    refine r_appF rfl rfl hD2.fs (by omega) fun fb c zs X3 k1 k2 k3 k4 kz k5 k6 => ?_
    have hfv : ∀ a ∈ fvb h.fv, a ∈ h.bs b := fun a ha => by simp [Hd.bs, ha]
    have hnd := hD.nd
    simp only [Hd.bs, List.nodup_cons, List.mem_cons, not_or] at hnd
    obtain ⟨⟨q1, q2, q3⟩, ⟨q4, q5⟩, q6, q7⟩ := hnd
    have hfb : fb ≠ b ∧ fb ≠ h.ms ∧ fb ≠ h.mn := by
      rcases k6 with k6 | k6
      · exact ⟨fun e => q3 (e ▸ k6), fun e => q5 (e ▸ k6), fun e => q6 (e ▸ k6)⟩
      · have := hD2.new k6
        simp only [Hd.bs, List.mem_cons, not_or] at this
        exact ⟨this.1, this.2.1, this.2.2.1⟩
    have hfx : fb ≠ cx := by
      rcases k6 with k6 | k6
      · exact fun e => nx (e ▸ hfv _ k6)
      · exact fun e => by rw [e, x2] at k6; cases k6
    have g3 := k5.get (fun hm => n3 (hfv _ hm)) x3''
    have g4 := k5.get (fun hm => n4 (hfv _ hm)) x4''
    have gx := k5.get (fun hm => nx (hfv _ hm)) x2
    have gb := k5.get q3 ob2
    repeat (refine gk dkU ?_)
    refine sxk dkU ?_
    intro X4 y4 f4
    have n3b : c3 ≠ b := fun e => n3 (by simp [Hd.bs, e])
    have n4b : c4 ≠ b := fun e => n4 (by simp [Hd.bs, e])
    have nxb : cx ≠ b := fun e => nx (by simp [Hd.bs, e])
    have g3' := f4.get (by simpa using n3b) g3
    have g4' := f4.get (by simpa using n4b) g4
    have gx' := f4.get (by simpa using nxb) gx
    have kf := f4.get (by simpa using hfb.1) k1
    repeat (refine gk dkU ?_)
    (apply r_call; (focus rfl))
    refine Spec.lay (b := cx) gx' (args' := [ptr b, chgV (.mk ⟨p, false, d.f.length⟩)]) ⟨FW.refl _ _ _, FW.ag (ys := [.sl .no 1 [S p], .sl .no 1 [.rp [B false, I d.f.length]]]) ⟨FW.of (Weak.drop _ _ _), FW.sl ⟨FW.ptr, trivial⟩ rfl (by simp [HV.ncells]), trivial⟩ rfl, trivial⟩ ?_
    have kf2 : (X4.upd cx none) fb = some (.obj (flsC d.f ++ [.v (.slice none 0 0), I 0] ++ zs)) := by rw [Heap.upd_ne _ _ hfx]; exact kf
    refine Spec.sub (sub_upd (cs := flsC (d.f ++ [⟨[], 0⟩]) ++ zs) kf2 ?_ ?_) ?_
    · have : flsC (d.f ++ [⟨[], 0⟩]) = flsC d.f ++ [.sl .no 1 [], I 0] := by simp [flsC]
      rw [this]
      exact WeakL.app (WeakL.app (WeakL.refl _) ⟨Weak.nil' 1, Weak.refl _, trivial⟩) (WeakL.refl _)
    · rw [List.all_append, flsC_one, kz]; rfl
    generalize hX5 : (X4.upd cx none).upd fb (some (.obj (flsC (d.f ++ [⟨[], 0⟩]) ++ zs))) = X5
    have o5 : Own X1 X5 (cx :: h.bs b) ((⟨h.ms, h.mn, .v (.slice (some ⟨fb, 0, none⟩) (d.f.length + 1) c)⟩ : Hd).bs b) := by
      have o2 : Own X1 X2 (cx :: h.bs b) (cx :: h.bs b) := Own.set f2 (by simp)
      have o3 : Own X2 X3 (cx :: h.bs b) (cx :: (⟨h.ms, h.mn, .v (.slice (some ⟨fb, 0, none⟩) (d.f.length + 1) c)⟩ : Hd).bs b) := by
        refine ⟨k5.mono fun a ha => by simp [hfv a ha], fun a ha => ?_⟩
        simp only [Hd.bs, fvb, List.mem_cons, List.not_mem_nil, or_false] at ha ⊢
        rcases ha with rfl | rfl | rfl | rfl | rfl
        · simp
        · simp
        · simp
        · simp
        · rcases k6 with k6 | k6
          · exact .inl (.inr (.inr (.inr (.inr k6))))
          · exact .inr k6
      have o4 : Own X3 X5 (cx :: (⟨h.ms, h.mn, .v (.slice (some ⟨fb, 0, none⟩) (d.f.length + 1) c)⟩ : Hd).bs b) (cx :: (⟨h.ms, h.mn, .v (.slice (some ⟨fb, 0, none⟩) (d.f.length + 1) c)⟩ : Hd).bs b) := by
        refine Own.set (cs := [b, cx, fb]) ?_ (by simp [Hd.bs, fvb])
        rw [← hX5]
        exact ((f4.mono (by simp)).trans (Fr.set (by simp))).trans (Fr.set (by simp))
      exact ((o2.trans o3).trans o4).sub fun a ha => by simp [ha]
    have hD5 : KD X5 b ⟨h.ms, h.mn, .v (.slice (some ⟨fb, 0, none⟩) (d.f.length + 1) c)⟩ { d with f := d.f ++ [⟨[], 0⟩] } := by
      have h5b : ∀ a, a ≠ fb → a ≠ cx → X5 a = X4 a := fun a h1 h2 => by rw [← hX5, Heap.upd_ne _ _ h1, Heap.upd_ne _ _ h2]
      have f45 : Fr [cx, fb] X4 X5 := Fr.make2 fun a r ha hr => by
        simp only [List.mem_cons, List.not_mem_nil, or_false, not_or] at ha
        rw [h5b a ha.2 ha.1]; exact hr
      have n1x : h.ms ≠ cx := fun e => nx (by simp [Hd.bs, ← e])
      have n2x : h.mn ≠ cx := fun e => nx (by simp [Hd.bs, ← e])
      refine ⟨by rw [h5b b hfb.1.symm nxb.symm]; exact y4, ?_, ?_, .inr ⟨fb, c, zs, by simp, by rw [← hX5, Heap.upd_same], by simpa using k2, k3, by simpa using k4, kz⟩, ?_⟩
      · exact ((hD2.su.fr k5 q5).fr f4 (by simpa using fun e => q1 e.symm)).fr f45 (by simpa using ⟨n1x, hfb.2.1.symm⟩)
      · exact ((hD2.no.fr k5 q6).fr f4 (by simpa using fun e => q2 e.symm)).fr f45 (by simpa using ⟨n2x, hfb.2.2.symm⟩)
      · simp only [Hd.bs, fvb, List.nodup_cons, List.mem_cons, List.not_mem_nil, or_false, not_or, not_false_eq_true, List.nodup_nil, and_true]
        exact ⟨⟨q1, q2, hfb.1.symm⟩, ⟨q4, hfb.2.1.symm⟩, hfb.2.2.symm⟩
    refine drename_spec L b _ { d with f := d.f ++ [⟨[], 0⟩] } _ hs hok (by show d.loose.length < _; omega) _ hD5 _ fun Y hY oY => ?_
    repeat (refine gk dkU ?_)
    exact resK_some (hk Y _ _ hY (Own.ahead (c := cx) hcx f1 (o5.trans oY)))
end Sm

set_option linter.unusedVariables false
set_option linter.unusedSimpArgs false
set_option maxRecDepth 10000
set_option maxHeartbeats 1000000
namespace Sm
open Go
-- BASE dkU
attribute [local irreducible] csem rsem dsem seqK blockK normK finK DK RK JK BR G3 resK Spec Tok Fr CV

theorem dput_spec (L : Linked code) (b : Nat) (h : Hd) (d : Dk) (p : List UInt8) (dir : Bool) (n m : Nat) (hw : d.WF n m) (hn : n < 1048576) (hp : p.length ≤ 1048576) (H : Heap) (hD : KD H b h d) (K) (hk : ∀ Y h', KD Y b h' (d.put p dir).1 → Own H Y (h.bs b) (h'.bs b) → K (I (d.put p dir).2) Y) : Spec L.P L.ν 336 [ptr b, S p, B dir] H K := by
  unfold Dk.put at hk
  refine go_spec L code336 rfl ?_
  repeat (refine gk dkU ?_)
  refine bxk dkU ?_
  intro c3 X1 h3 x3 f1 _
  repeat (refine gk dkU ?_)
  refine bxk dkU ?_
  intro c4 X2 h4 x4 f2 _
  have x3a := f2.get (by simp) x3
  repeat (refine gk dkU ?_)
  refine bxk dkU ?_
  intro c5 X3 h5 x5 f3 _
  have x3b := f3.get (by simp) x3a
  have x4b := f3.get (by simp) x4
  have f0 := (f1.trans f2).trans f3
  have hD3 := hD.fr0 f0
  have n3 := hD.new h3
  have n4 := hD.new (f1.of_none h4)
  have n5 := hD.new ((f1.trans f2).of_none h5)
  clear x3 x4 x3a
  repeat (refine gk dkU ?_)
  (apply r_call; (focus rfl))
  refine asked_spec L b h d .full [p] (by simpa using hp) (by simp) X3 hD3 _ fun X4 f4 => ?_
  rw [askD_one]
  have fa := f0.trans f4
  have hD4 := hD3.fr0 f4
  have ob4 := hD4.ob
  have x3c := f4.get (by simp) x3b
  have x4c := f4.get (by simp) x4b
  have x5c := f4.get (by simp) x5
  repeat (refine gk dkU ?_)
  cases c1 : (d.asked p != 0)
  case true =>
    have c1' : d.asked p ≠ 0 := by simpa using c1
    rw [if_pos c1'] at hk
    repeat (refine gk (And.intro dkU c1) ?_)
    exact resK_some (hk X4 h hD4 (Own.of _ fa))
  have c1' : ¬ d.asked p ≠ 0 := by simpa using c1
  rw [if_neg c1'] at hk
  repeat (refine gk (And.intro dkU c1) ?_)
  (apply r_call; (focus rfl))
  refine dparent_spec L b h d p hp hw.now_sn X4 hD4 _ ?_
  repeat (refine gk dkU ?_)
  cases c2 : (parD d.now p != 0)
  case true =>
    have c2' : parD d.now p ≠ 0 := by simpa using c2
    rw [if_pos c2'] at hk
    repeat (refine gk (And.intro dkU c2) ?_)
    exact resK_some (hk X4 h hD4 (Own.of _ fa))
  have c2' : ¬ parD d.now p ≠ 0 := by simpa using c2
  rw [if_neg c2'] at hk
  repeat (refine gk (And.intro dkU c2) ?_)
  apply r_lkpN hD4.no hw.now_sn; (focus rfl)
  repeat (refine gk dkU ?_)
  cases c3' : (getN d.now p).isSome
  case true =>
    rw [c3', if_pos rfl] at hk
    repeat (refine gk dkU ?_)
    exact resK_some (hk X4 h hD4 (Own.of _ fa))
  rw [c3', if_neg (by decide)] at hk
  have hnone : getN d.now p = none := by simpa using c3'
  repeat (refine gk dkU ?_)
  (apply r_call; (focus rfl))
  have hlen := hw.len
  have hfl := hw.fl
  have hop := hw.op
  refine step_spec L b h d (Dk.chg { d with f := if dir then d.f else d.f ++ [⟨[], 0⟩] } (.mk ⟨p, dir, if dir then 0 else d.f.length⟩)) (by omega) hw.fa hw.wr rfl _ X4 hD4 (fun ops fails wrong down X hX oX K1 hk1 => ?_) _ fun Y h' hY oY => ?_
  · exact cv_fn <| dput1_spec L b c3 c4 c5 h (d.ctr ops fails wrong down) p dir hw.now_sn (by show d.loose.length < _; omega) (by show d.f.length < _; omega) hnone X hX (oX.get n3 x3c) (oX.get n4 x4c) (oX.get n5 x5c) n3 n4 n5 K1 fun Y h' r hY oY => hk1 Y h' r hY oY
  · repeat (refine gk dkU ?_)
    exact resK_some (hk Y h' hY ((Own.of _ fa).trans oY))
theorem dcreate_spec (L : Linked code) (b : Nat) (h : Hd) (d : Dk) (p : List UInt8) (n m : Nat) (hw : d.WF n m) (hn : n < 1048576) (hp : p.length ≤ 1048576) (H : Heap) (hD : KD H b h d) (K) (hk : ∀ Y h', KD Y b h' (d.put p false).1 → Own H Y (h.bs b) (h'.bs b) → K (I (d.put p false).2) Y) : Spec L.P L.ν 299 [ptr b, S p] H K := by
  refine go_spec L code299 rfl ?_
  repeat (refine gk dkU ?_)
  (apply r_call; (focus rfl))
  refine dput_spec L b h d p false n m hw hn hp H hD _ fun Y h' hY oY => ?_
  repeat (refine gk dkU ?_)
  exact resK_some (hk Y h' hY oY)
end Sm

set_option linter.unusedVariables false
set_option linter.unusedSimpArgs false
set_option maxRecDepth 10000
set_option maxHeartbeats 1000000
namespace Sm
open Go
-- BASE dkU
def szN (f : List Fl) (n : Nm) : Nat := if n.dir then 0 else (f.getD n.id default).b.length
theorem used_eq (d : Dk) : d.used = (d.now.map (szN d.f)).sum := rfl
theorem szN_le {d : Dk} {n m : Nat} (hw : d.WF n m) (x : Nm) : szN d.f x ≤ m := by
  unfold szN
  split
  · exact Nat.zero_le _
  · exact (fl_mem hw _).1
theorem used_le {d : Dk} {n m : Nat} (hw : d.WF n m) : d.used ≤ n * m := by
  rw [used_eq]
  exact Nat.le_trans (sum_le _ m fun x _ => szN_le hw x) (Nat.mul_le_mul_right m hw.now_len)
theorem fpV_of {v : HV} {fb n c : Nat} (h : v = .v (.slice (some ⟨fb, 0, none⟩) n c)) (i : Nat) : fpV v i = .v (.pointer (some ⟨fb, i * 2, none⟩)) := by
  subst h; simp [fpV]
theorem getD_at {f : List Fl} {i : Nat} (h : i < f.length) : f.getD i default = f[i] := by simp [List.getD, h]
attribute [local irreducible] csem rsem dsem seqK blockK normK finK DK RK JK BR G3 resK Spec Tok Fr CV

theorem dused_spec (L : Linked code) (b : Nat) (h : Hd) (d : Dk) (n m : Nat) (hw : d.WF n m) (hnm : n * m ≤ 1152921504606846976) (H : Heap) (hD : KD H b h d) (K) (hk : ∀ X, Fr [] H X → K (I d.used) X) : Spec L.P L.ν 313 [ptr b] H K := by
  have ob := hD.ob
  obtain ⟨mm, hp, hm⟩ := hD.no
  have hml : mm.length ≤ n := by rw [hp.length_eq]; exact hw.now_len
  refine go_spec L code313 rfl ?_
  repeat (refine gk dkU ?_)
  refine r_mop rfl (mp_rng hm fun it X0 hit hI f0 => ?_)
  repeat (refine gk dkU ?_)
  refine c_loop (Spec_SMono L) (fun (q : List Nm × Nat) => [(0, .h (ptr b)), (3, .h (I q.2)), (12, .h (ptr it))]) (fun _ => []) (fun q X => MIt X it h.mn Nm.path ndV mm q.1 ∧ Fr [] H X ∧ q.2 = (q.1.map (szN d.f)).sum) (fun q => mm.length - q.1.length) ([], 0) ?_ ⟨hI, f0, rfl⟩ ?_
  · (refine leM ?_ ?_ ?_ <;> (repeat refine leS trivial ?_) <;> exact leE)
  rintro ⟨done, s⟩ X ⟨hI, hf, hs⟩
  dsimp only at hI hf hs ⊢
  repeat (refine gk dkU ?_)
  refine r_mop rfl (mp_nxt hI hI.ne (fun hpd => ?_) fun a X1 ha had hI1 f1 => ?_)
  · repeat (refine gk dkU ?_)
    have e : s = d.used := by
      rw [hs, used_eq]
      exact ((hpd.trans hp).map _).sum_nat
    rw [e]
    exact resK_some (hk X hf)
  have hlen := hI1.len
  rw [List.length_append, List.length_cons, List.length_nil] at hlen
  have hf1 : Fr [] H X1 := hf.own hit f1
  have hs1 : ((done ++ [a]).map (szN d.f)).sum = s + szN d.f a := by simp [hs]
  have hb1 : s + szN d.f a ≤ 1152921504606846976 := by
    rw [← hs1]
    refine Nat.le_trans (sum_le _ m fun x _ => szN_le hw x) (Nat.le_trans (Nat.mul_le_mul_right m ?_) hnm)
    simp; omega
  repeat (refine gk dkU ?_)
  refine r_mop rfl (mp_ent hI1 ?_)
  repeat (refine gk dkU ?_)
  cases c1 : a.dir
  case true =>
    have hz : szN d.f a = 0 := by simp [szN, c1]
    try simp only [Bool.not_true]
    repeat (refine gk dkU ?_)
    refine k_n (done ++ [a], s) (by simp; omega) ⟨hI1, hf1, by simp only [hs1, hz, Nat.add_zero]⟩ ?_
    (refine leM ?_ ?_ ?_ <;> (repeat refine leS trivial ?_) <;> exact leE)
  have hid := (hw.now_ok a (hp.mem_iff.mp ha)).2.1 c1
  have hz : szN d.f a = d.f[a.id].b.length := by simp [szN, c1, hid]
  rcases hD.fs with ⟨_, h0⟩ | ⟨fb, c, zs, e1, k1, _⟩
  · rw [h0] at hid; exact absurd hid (Nat.not_lt_zero _)
  have ob1 := hf1.get (by simp) ob
  rw [e1] at ob1
  have k2 := hf1.get (by simp) k1
  rw [hz] at hb1 hs1
  try simp only [Bool.not_false]
  repeat (refine gk dkU ?_)
  apply r_idxO; (focus rfl); (focus rfl); (focus omega)
  repeat (refine gk dkU ?_)
  apply r_load; (focus rfl); (focus exact k2); (focus exact load_fl0 hid (by simp) zs)
  repeat (refine gk dkU ?_)
  refine k_n (done ++ [a], s + d.f[a.id].b.length) (by simp; omega) ⟨hI1, hf1, hs1.symm⟩ ?_
  (refine leM ?_ ?_ ?_ <;> (repeat refine leS trivial ?_) <;> exact leE)
end Sm

set_option linter.unusedVariables false
set_option linter.unusedSimpArgs false
namespace Sm
open Go
def usedL (f : List Fl) (l : List Nm) : Nat := (l.map (szN f)).sum
def tot (f : List Fl) : Nat := (f.map fun x => x.b.length).sum
end Sm
