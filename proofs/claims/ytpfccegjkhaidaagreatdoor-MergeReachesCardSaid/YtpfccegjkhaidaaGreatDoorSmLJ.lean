/-
  A layer of one's own: texts Y4.
-/
import Derived.Test.YtpfccegjkhaidaaGreatDoorSmLH
import Derived.Test.YtpfccegjkhaidaaGreatDoorSmLI
set_option linter.unusedVariables false
set_option linter.unusedSimpArgs false
namespace Sm
open Go
section
variable {S' : SpecT} {sl : List (Nat × EV)} {bx : List (Nat × List HV)} {H : Heap} {K : Env → Heap → Prop} {os : List SOper} {d : Nat}
theorem r_mop {f : MOp} {xs : List Opd} {hs : List HV} (hx : (M sl bx).hvs xs = some hs) (h : mopK f hs H fun r X => rsem S' os (M ((d, .h r) :: sl) bx) X K) : rsem S' (⟨some d, .hop (.m f) xs, none⟩ :: os) (M sl bx) H K := by
  rw [rsem_cons]
  simp only [SOp.step, hx, hopK]
  refine mopK_mono (fun r X hr => ?_) h
  rw [rK_app, M_put]; exact hr
theorem r_mop0 {f : MOp} {xs : List Opd} {hs : List HV} (hx : (M sl bx).hvs xs = some hs) (h : mopK f hs H fun r X => rsem S' os (M sl bx) X K) : rsem S' (⟨none, .hop (.m f) xs, none⟩ :: os) (M sl bx) H K := by
  rw [rsem_cons]
  simp only [SOp.step, hx, hopK]
  refine mopK_mono (fun r X hr => ?_) h
  rw [rK_app, M_put0]; exact hr
end
theorem nodup_inj {α : Type} {l : List α} (hn : l.Nodup) {i j : Nat} (hi : i < l.length) (hj : j < l.length) (h : l[i] = l[j]) : i = j := by
  have hp := List.pairwise_iff_getElem.mp hn
  rcases Nat.lt_trichotomy i j with h1 | h1 | h1
  · exact absurd h (hp i j hi hj h1)
  · exact h1
  · exact absurd h.symm (hp j i hj hi h1)
/-- A map, told by a list: its keys are texts. -/
abbrev mpE {α : Type} (key : α → List UInt8) (val : α → HV) (l : List α) (st : List Nat) : List MEnt := List.zipWith (fun a s => ((.string ⟨(key a).toArray⟩ : Value), val a, s)) l st
structure MP {α : Type} (H : Heap) (b : Nat) (key : α → List UInt8) (val : α → HV) (l : List α) : Prop where
  ob : ∃ st c, H b = some (.mp (mpE key val l st) c) ∧ st.length = l.length ∧ st.Nodup ∧ (∀ s ∈ st, s < c)
  nd : (l.map key).Nodup
section
variable {α : Type} {key : α → List UInt8} {val : α → HV}
theorem MP.fr {H H' : Heap} {bs : List Nat} {b : Nat} {l : List α} (h : MP H b key val l) (hf : Fr bs H H') (hb : b ∉ bs) : MP H' b key val l := by
  obtain ⟨⟨st, c, h1, h2⟩, h3⟩ := h
  exact ⟨⟨st, c, hf.get hb h1, h2⟩, h3⟩
theorem MP.new {H : Heap} {b : Nat} : MP (H.upd b (some (.mp [] 0))) b key val [] := ⟨⟨[], 0, Heap.upd_same _ _ _, rfl, List.nodup_nil, by simp⟩, List.nodup_nil⟩
theorem keq_str (p q : List UInt8) : keq true (.string ⟨p.toArray⟩) (.string ⟨q.toArray⟩) = some (p == q) := by
  simp only [keq, if_true, Option.some.injEq]
  by_cases h : p = q
  · subst h; rw [(MapKept.bytes_beq _ _).mpr rfl]; simp
  · have h1 : (p == q) = false := by simpa using h
    rw [h1, Bool.eq_false_iff]
    intro h2
    have h3 := (MapKept.bytes_beq _ _).mp h2
    injection h3 with h3
    exact h (by simpa using congrArg Array.toList h3)
/-- What is put under its key. -/
def mput (key : α → List UInt8) (l : List α) (x : α) : List α := if l.any (fun a => key a == key x) then l.map (fun a => if key a == key x then x else a) else l ++ [x]
theorem mfind_mp (p : List UInt8) : ∀ (l : List α) (st : List Nat), st.length = l.length → ∀ i, mfind true (.string ⟨p.toArray⟩) (mpE key val l st) i = some ((l.findIdx? (fun a => key a == p)).bind fun j => (l[j]?).map fun a => (i + j, val a))
  | [], [], _, i => rfl
  | [], _ :: _, h, i => by cases h
  | _ :: _, [], h, i => by cases h
  | a :: l, s :: st, h, i => by
    have ih := mfind_mp p l st (by simpa using h) (i + 1)
    simp only [mpE, List.zipWith_cons_cons, mfind, keq_str] at ih ⊢
    have hc : (p == key a) = (key a == p) := by
      by_cases h : p = key a
      · subst h; rfl
      · have h' : ¬ key a = p := fun e => h e.symm
        rw [beq_false_of_ne h, beq_false_of_ne h']
    rw [hc, List.findIdx?_cons]
    cases hk : key a == p
    · simp only [Bool.false_eq_true, if_false, ih]
      cases hf : List.findIdx? (fun a => key a == p) l with
      | none => simp
      | some j =>
        simp only [Option.bind_some, Option.map_some, List.getElem?_cons_succ]
        cases l[j]? <;> simp
        omega
    · simp
theorem findIdx_find {α : Type} (f : α → Bool) : ∀ l : List α, (l.findIdx? f).bind (fun j => l[j]?) = l.find? f
  | [] => rfl
  | a :: l => by
    rw [List.findIdx?_cons, List.find?_cons]
    cases h : f a
    · simp only [Bool.false_eq_true, if_false]
      rw [← findIdx_find f l]
      cases List.findIdx? f l <;> simp
    · simp
theorem mp_lkp {H : Heap} {b : Nat} {l : List α} (h : MP H b key val l) (p : List UInt8) (ok agg : Bool) (z : List HV) {z' : HV} {R : HV → Heap → Prop}
    (hk : R (match l.find? (fun a => key a == p) with
      | some a => okd ok (val a) true
      | none => z') H) (hz : Weak (okd ok (mzero agg z) false) z') : mopK (.lkp true ok agg z) [.v (.map (some b)), .v (.string ⟨p.toArray⟩)] H R := by
  obtain ⟨⟨st, c, h1, h2, h3⟩, h4⟩ := h
  refine ⟨rfl, _, c, h1, ?_⟩
  rw [mfind_mp p l st h2 0]
  rw [← findIdx_find] at hk
  cases hf : List.findIdx? (fun a => key a == p) l with
  | none => rw [hf] at hk; exact ⟨z', hz, hk⟩
  | some j =>
    rw [hf] at hk
    simp only [Option.bind_some] at hk ⊢
    have hj : j < l.length := (List.findIdx?_eq_some_iff_getElem.mp hf).1
    rw [List.getElem?_eq_getElem hj] at hk ⊢
    exact hk
theorem mpE_modify (x : α) (p : List UInt8) (hx : key x = p) : ∀ (l : List α) (st : List Nat) (j : Nat), st.length = l.length → (mpE key val l st).modify j (fun e => ((.string ⟨p.toArray⟩ : Value), val x, e.2.2)) = mpE key val (l.set j x) st
  | [], [], j, _ => by cases j <;> rfl
  | [], _ :: _, _, h => by cases h
  | _ :: _, [], _, h => by cases h
  | a :: l, s :: st, 0, h => by simp [mpE, hx]
  | a :: l, s :: st, j + 1, h => by
    have := mpE_modify x p hx l st j (by simpa using h)
    simp only [mpE, List.zipWith_cons_cons, List.modify_succ_cons, List.set_cons_succ] at this ⊢
    rw [this]
theorem set_first {l : List α} {x : α} {j : Nat} (hn : (l.map key).Nodup) (hj : j < l.length) (hk : key l[j] = key x) : l.set j x = l.map (fun a => if key a == key x then x else a) := by
  apply List.ext_getElem
  · simp
  · intro i h1 h2
    have hi : i < l.length := by simpa using h1
    rw [List.getElem_set, List.getElem_map]
    split
    · rename_i e; subst e; rw [if_pos (by simpa using hk)]
    · rename_i hne
      have : ¬ key l[i] = key x := fun e => by
        rw [← hk] at e
        have := nodup_inj hn (i := i) (j := j) (by simpa using hi) (by simpa using hj) (by simpa using e)
        omega
      rw [if_neg (by simpa using this)]
theorem mput_keys {l : List α} {x : α} (hn : (l.map key).Nodup) : ((mput key l x).map key).Nodup := by
  unfold mput
  split
  · have : (l.map fun a => if key a == key x then x else a).map key = l.map key := by
      rw [List.map_map]
      apply List.map_congr_left
      intro a _
      simp only [Function.comp]
      split
      · rename_i h; exact (by simpa using h : key a = key x).symm
      · rfl
    rw [this]; exact hn
  · rename_i h
    rw [List.map_append, List.nodup_append]
    refine ⟨hn, by simp, ?_⟩
    rintro a ha b hb rfl
    simp only [List.map_cons, List.map_nil, List.mem_cons, List.not_mem_nil, or_false] at hb
    obtain ⟨y, hy, hy2⟩ := List.mem_map.mp ha
    exact h (List.any_eq_true.mpr ⟨y, hy, by simp [hy2, hb]⟩)
theorem mp_upd {H : Heap} {b : Nat} {l : List α} (h : MP H b key val l) (x : α) {R : HV → Heap → Prop} (hk : ∀ X, MP X b key val (mput key l x) → Fr [b] H X → R (.v Go.undef) X) : mopK (.upd true) [.v (.map (some b)), .v (.string ⟨(key x).toArray⟩), val x] H R := by
  have hnd := mput_keys (x := x) h.nd
  obtain ⟨⟨st, c, h1, h2, h3, h5⟩, h4⟩ := h
  refine ⟨rfl, _, c, h1, ?_⟩
  rw [mfind_mp (key x) l st h2 0]
  cases hf : List.findIdx? (fun a => key a == key x) l with
  | none =>
    have hany : l.any (fun a => key a == key x) = false := by
      rw [List.any_eq_false]
      intro a ha
      have := List.findIdx?_eq_none_iff.mp hf a ha
      simpa using this
    have e : mput key l x = l ++ [x] := by rw [mput, hany]; rfl
    refine hk _ ⟨⟨st ++ [c], c + 1, ?_, by simp [h2, e], ?_, ?_⟩, hnd⟩ (Fr.set (by simp))
    · rw [Heap.upd_same, e]
      congr 2
      simp only [mpE]
      rw [List.zipWith_append h2.symm]; rfl
    · rw [List.nodup_append]
      refine ⟨h3, by simp, ?_⟩
      rintro a ha b hb rfl
      simp at hb
      have := h5 a ha; omega
    · intro s hs
      rcases List.mem_append.mp hs with hs | hs
      · have := h5 s hs; omega
      · simp at hs; omega
  | some j =>
    obtain ⟨hj, hj2, _⟩ := List.findIdx?_eq_some_iff_getElem.mp hf
    have hj3 : key l[j] = key x := by simpa using hj2
    have hany : l.any (fun a => key a == key x) = true := List.any_eq_true.mpr ⟨l[j], List.getElem_mem hj, hj2⟩
    have e : mput key l x = l.set j x := by rw [mput, hany, if_pos rfl, set_first h4 hj hj3]
    simp only [Option.bind_some, List.getElem?_eq_getElem hj, Option.map_some, Nat.zero_add]
    refine hk _ ⟨⟨st, c, ?_, by rw [e]; simpa using h2, h3, h5⟩, hnd⟩ (Fr.set (by simp))
    rw [Heap.upd_same, mpE_modify x (key x) rfl l st j h2, e]
theorem mp_len {H : Heap} {b : Nat} {l : List α} (h : MP H b key val l) {R : HV → Heap → Prop} (hk : R (.v (.int .i64 l.length)) H) : mopK .len [.v (.map (some b))] H R := by
  obtain ⟨⟨st, c, h1, h2, h3, h5⟩, h4⟩ := h
  refine ⟨_, c, h1, ?_⟩
  have : (mpE key val l st).length = l.length := by simp [mpE, h2]
  rw [this]; exact hk
/-- An iterator over a map that stands: what it gave, in that order. -/
structure MIt (H : Heap) (i b : Nat) (key : α → List UInt8) (val : α → HV) (l done : List α) : Prop where
  ob : ∃ st c seen, H b = some (.mp (mpE key val l st) c) ∧ st.length = l.length ∧ st.Nodup ∧ (∀ s ∈ st, s < c) ∧ H i = some (.it (some b) c seen c) ∧
    ∃ js : List Nat, js.Nodup ∧ (∀ j ∈ js, j < l.length) ∧ seen = js.map (fun j => st.getD j 0) ∧ done.map some = js.map fun j => l[j]?
  nd : (l.map key).Nodup
theorem MIt.fr {H H' : Heap} {bs : List Nat} {i b : Nat} {l done : List α} (h : MIt H i b key val l done) (hf : Fr bs H H') (hb : b ∉ bs) (hi : i ∉ bs) : MIt H' i b key val l done := by
  obtain ⟨⟨st, c, seen, h1, h2, h3, h4, h5, h6⟩, h7⟩ := h
  exact ⟨⟨st, c, seen, hf.get hb h1, h2, h3, h4, hf.get hi h5, h6⟩, h7⟩
theorem mp_rng {H : Heap} {b : Nat} {l : List α} (h : MP H b key val l) {R : HV → Heap → Prop} (hk : ∀ i X, H i = none → MIt X i b key val l [] → Fr [] H X → R (ptr i) X) : mopK .rng [.v (.map (some b))] H R := by
  obtain ⟨⟨st, c, h1, h2, h3, h5⟩, h4⟩ := h
  refine ⟨_, c, h1, fun i hi => hk i _ hi ⟨⟨st, c, [], ?_, h2, h3, h5, Heap.upd_same _ _ _, [], List.nodup_nil, by simp, rfl, rfl⟩, h4⟩ (Fr.new hi)⟩
  have : b ≠ i := by rintro rfl; rw [hi] at h1; cases h1
  rw [Heap.upd_ne _ _ this]; exact h1
theorem mpE_mem {l : List α} {st : List Nat} {e : MEnt} (h : e ∈ mpE key val l st) (hl : st.length = l.length) : ∃ j, ∃ hj : j < l.length, e = (.string ⟨(key l[j]).toArray⟩, val l[j], st.getD j 0) := by
  obtain ⟨j, hj, rfl⟩ := List.getElem_of_mem h
  have h1 : j < l.length := by simp [mpE] at hj; omega
  refine ⟨j, h1, ?_⟩
  have h2 : j < st.length := by omega
  simp [mpE, h2]
theorem mpE_get {l : List α} {st : List Nat} {j : Nat} (hj : j < l.length) (hl : st.length = l.length) : (mpE key val l st)[j]? = some (.string ⟨(key l[j]).toArray⟩, val l[j], st.getD j 0) := by
  have h2 : j < st.length := by omega
  have h3 : j < (mpE key val l st).length := by simp [mpE]; omega
  rw [List.getElem?_eq_getElem h3]
  simp [mpE, h2]
theorem getD_inj {st : List Nat} (hn : st.Nodup) {i j : Nat} (hi : i < st.length) (hj : j < st.length) (h : st.getD i 0 = st.getD j 0) : i = j := by
  exact nodup_inj hn hi hj (by simpa [List.getD, hi, hj] using h)
/-- One more is given; or all were. -/
theorem mp_nxt {H : Heap} {i b : Nat} {l done : List α} (h : MIt H i b key val l done) (hib : i ≠ b) {R : HV → Heap → Prop}
    (hk0 : done.Perm l → R (.tu [.v (.bool false)]) H) (hk1 : ∀ a X, a ∈ l → a ∉ done → MIt X i b key val l (done ++ [a]) → Fr [i] H X → R (.tu [.v (.bool true), .v (.string ⟨(key a).toArray⟩), val a]) X) :
    mopK .nxt [ptr i] H R := by
  obtain ⟨⟨st, c, seen, h1, h2, h3, h4, h5, js, j1, j2, j3, j4⟩, h7⟩ := h
  have hsl : ∀ j ∈ js, j < st.length := fun j hj => by have := j2 j hj; omega
  show match H i with
    | some (.it none _ _ _) => R (.tu [.v (.bool false)]) H
    | some (.it (some m) since seen last) => _
    | _ => False
  rw [h5]
  refine ⟨_, c, h1, ?_, fun e he hn => ?_, fun hall => ?_⟩
  · cases hl : mpE key val l st with
    | nil => exact .inr (.inl rfl)
    | cons e es =>
      refine .inr (.inr ⟨e, by simp, ?_⟩)
      obtain ⟨j, hj, rfl⟩ := mpE_mem (key := key) (val := val) (l := l) (st := st) (e := e) (by rw [hl]; simp) h2
      refine h4 _ ?_
      have : j < st.length := by omega
      simp [List.getD, this]
  · obtain ⟨j, hj, rfl⟩ := mpE_mem he h2
    have hjn : j ∉ js := fun hm => hn (by rw [j3]; exact List.mem_map.mpr ⟨j, hm, rfl⟩)
    have hdone : l[j] ∉ done := fun hm => by
      have h8 : some l[j] ∈ done.map some := List.mem_map.mpr ⟨_, hm, rfl⟩
      rw [j4] at h8
      obtain ⟨k, hk, hk2⟩ := List.mem_map.mp h8
      have hkl := j2 k hk
      rw [List.getElem?_eq_getElem hkl] at hk2
      have := nodup_inj h7 (i := k) (j := j) (by simpa using hkl) (by simpa using hj) (by simpa using congrArg (Option.map key) hk2)
      subst this
      exact hjn hk
    refine hk1 l[j] _ (List.getElem_mem hj) hdone ⟨⟨st, c, seen ++ [st.getD j 0], ?_, h2, h3, h4, Heap.upd_same _ _ _, js ++ [j], ?_, ?_, ?_, ?_⟩, h7⟩ (Fr.set (by simp))
    · rw [Heap.upd_ne _ _ hib.symm]; exact h1
    · rw [List.nodup_append]
      refine ⟨j1, by simp, ?_⟩
      rintro a ha k hk rfl
      simp at hk; subst hk; exact hjn ha
    · intro k hk
      rcases List.mem_append.mp hk with hk | hk
      · exact j2 k hk
      · simp at hk; subst hk; exact hj
    · rw [List.map_append, ← j3]; rfl
    · rw [List.map_append, List.map_append, j4]; simp [List.getElem?_eq_getElem hj]
  · refine hk0 ?_
    have hall' : ∀ j, j < l.length → j ∈ js := fun j hj => by
      have hjs : j < st.length := by omega
      have h8 := hall _ (List.mem_of_getElem? (mpE_get (key := key) (val := val) hj h2)) (h4 _ (by simp [List.getD, hjs]))
      simp only at h8
      rw [j3] at h8
      obtain ⟨k, hk, hk2⟩ := List.mem_map.mp h8
      have := getD_inj h3 (hsl k hk) (by omega) hk2
      subst this; exact hk
    have hp : js.Perm (List.range l.length) := by
      rw [List.perm_ext_iff_of_nodup j1 List.nodup_range]
      intro a
      rw [List.mem_range]
      exact ⟨j2 a, hall' a⟩
    have hp2 := hp.map (fun j => l[j]?)
    rw [← j4] at hp2
    have e : (List.range l.length).map (fun j => l[j]?) = l.map some := by
      apply List.ext_getElem
      · simp
      · intro k h8 h9; simp at h9; simp [h9]
    rw [e] at hp2
    have := hp2.filterMap id
    simpa using this
theorem mp_ent {H : Heap} {i b : Nat} {l done : List α} {a : α} (h : MIt H i b key val l (done ++ [a])) {R : HV → Heap → Prop} (hk : R (.tu [.v (.string ⟨(key a).toArray⟩), val a]) H) : mopK .ent [ptr i] H R := by
  obtain ⟨⟨st, c, seen, h1, h2, h3, h4, h5, js, j1, j2, j3, j4⟩, h7⟩ := h
  have hne : js ≠ [] := by rintro rfl; simp at j4
  obtain ⟨js', j, rfl⟩ : ∃ js' j, js = js' ++ [j] := ⟨js.dropLast, js.getLast hne, (List.dropLast_concat_getLast hne).symm⟩
  have hj := j2 j (by simp)
  rw [List.map_append, List.map_append] at j4
  have j5 := (List.append_inj' j4 rfl).2
  simp only [List.map_cons, List.map_nil, List.cons.injEq, and_true, List.getElem?_eq_getElem hj, Option.some.injEq] at j5
  rw [List.map_append] at j3
  refine ⟨b, c, _, st.getD j 0, c, _, (.string ⟨(key l[j]).toArray⟩, val l[j], st.getD j 0), by rw [h5, j3]; rfl, h1, ?_, by rw [← j5]; exact hk⟩
  rw [List.find?_eq_some_iff_getElem]
  have hjl : j < (mpE key val l st).length := by simp [mpE]; omega
  have hg := mpE_get (key := key) (val := val) hj h2
  rw [List.getElem?_eq_getElem hjl] at hg
  refine ⟨by simp, j, hjl, by simpa using hg, fun k hk2 => ?_⟩
  have hkl : k < l.length := by omega
  have hgk := mpE_get (key := key) (val := val) hkl h2
  rw [List.getElem?_eq_getElem (by omega)] at hgk
  simp only [Option.some.injEq] at hgk
  rw [hgk]
  have : st.getD k 0 ≠ st.getD j 0 := fun e => by
    have := getD_inj h3 (by omega) (by omega) e
    omega
  simpa using this
end
end Sm
