/-
  A layer of one's own: texts G6.
-/
import Derived.Test.YtmdfajhlofhmcaaDoorSmGA
import Derived.Test.YtmdfajhlofhmcaaDoorSmGB
import Derived.OpenShut
set_option linter.unusedVariables false
set_option linter.unusedSimpArgs false
namespace Sm
open Go

/-- A type whose readings are opened: by what they are told. -/
structure Opn (P : Program) (ν : Nat → Option Nat) (t : TypeId) {α : Type} (ok : α → Prop) (f : α → List HV) (n : Nat) : Prop where
  ap : ∀ {H : Type} {enc : TypeId × Value → H} {w : World} {base : Nat} {spare : Nat → Bool} {held : Bool} {fuel : Nat} {cs : List Value} {x : DataW H × List MemPlace}, DataW.trod enc P w base spare held fuel t cs = some x → ∃ a, ok a ∧ repL ν (sizes' w) w (f a) cs
  one : ∀ a, (f a).all HV.one = true
  len : ∀ a, (f a).length = n
section
variable {P : Program} {ν : Nat → Option Nat} {t : TypeId}
theorem opn_u8 (ht : P.underlying t = some (.int .u8)) : Opn P ν t (fun _ : UInt8 => True) (fun a => [.v (.int .u8 a.toNat)]) 1 :=
  ⟨fun h => by
    obtain ⟨a, e, _, hw⟩ := DataW.trod_int ht h
    subst e
    simp only [Lit.wf, Bool.and_eq_true, decide_eq_true_eq] at hw
    have h2 : 0 ≤ a ∧ a ≤ 255 := hw
    refine ⟨UInt8.ofNat a.toNat, trivial, ?_⟩
    simp only [repL, rep]
    refine ⟨_, [], rfl, ?_, rfl⟩
    congr 1
    rw [UInt8.toNat_ofNat']
    omega, fun _ => rfl, fun _ => rfl⟩
/-- Slices whose elements are one cell each. -/
theorem opn_sl1 {e : TypeId} {α : Type} [Inhabited α] {ok : α → Prop} {g : α → HV} (ht : P.underlying t = some (.slice e)) (hc : P.cellsOf e = 1) (he : Opn P ν e ok (fun a => [g a]) 1) :
    Opn P ν t (fun l : List α => ∀ a ∈ l, ok a) (fun l => [.sl .no 1 (l.map g)]) 1 :=
  ⟨fun {H enc w base spare held fuel cs x} h => by
    have hg1 : ∀ a, (g a).one = true := fun a => by have := he.one a; simpa using this
    have hgc : ∀ a, (g a).ncells = 1 := fun a => by have := hg1 a; cases hga : g a <;> simp_all [HV.ncells, HV.one]
    have hge : ∀ a, (g a).el = true := fun a => by have := hg1 a; cases hga : g a <;> simp_all [HV.el, HV.one]
    rcases Deep.open_slice1 ht hc h with ⟨rfl, _⟩ | ⟨a, len, cap, m, n, V, D, Pl, rfl, hb, hl, hm, hmm, rfl, hx⟩
    · refine ⟨[], by simp, ?_⟩
      simp only [repL, rep, List.map_nil]
      exact ⟨_, [], rfl, ⟨none, 0, [], rfl, by simp, by simp, trivial, rfl, by simp, rfl, .inl trivial⟩, rfl⟩
    · have hlm : len ≤ m := by rw [hmm]; split <;> omega
      have each : ∀ i, ∃ q : α, i < len → ok q ∧ rep ν (sizes' w) w (g q) (V i) := by
        intro i
        by_cases hi : i < len
        · obtain ⟨h1, h2⟩ := hx i (by omega)
          obtain ⟨y, g0, g1⟩ := he.ap h2
          simp only [repL] at g1
          obtain ⟨u, us, e1, e2, rfl⟩ := g1
          cases e1
          exact ⟨y, fun _ => ⟨g0, e2⟩⟩
        · exact ⟨default, fun h => absurd h hi⟩
      obtain ⟨q, hq⟩ := Classical.axiomOfChoice each
      refine ⟨(List.range len).map q, ?_, ?_⟩
      · intro y hy
        simp only [List.mem_map, List.mem_range] at hy
        obtain ⟨i, hi, rfl⟩ := hy
        exact (hq i hi).1
      simp only [repL, rep]
      refine ⟨_, [], rfl, ⟨some a, cap, (List.range len).map V, by simp, by simpa using hl, hm, trivial, ?_, ?_, ?_, ?_⟩, rfl⟩
      · rw [List.all_eq_true]
        intro y hy
        obtain ⟨z, _, rfl⟩ := List.mem_map.mp hy
        exact hge z
      · intro y hy
        obtain ⟨z, _, rfl⟩ := List.mem_map.mp hy
        exact hgc z
      · rw [List.map_map]
        refine repL_map _ _ _ fun i hi => ?_
        exact (hq i (List.mem_range.mp hi)).2
      · rcases Nat.eq_zero_or_pos len with h0 | h0
        · left; subst h0; rfl
        · right
          have hVone : ∀ i < len, (V i).cells.toList = [V i] := fun i hi => by
            have := rep_one (hg1 (q i)) (hq i hi).2
            cases hv : V i <;> simp_all [Value.cells, Value.oneCell']
          have hfl : flat ((List.range len).map V) = (List.range len).map V := by
            have : ∀ l : List Nat, (∀ i ∈ l, i < len) → flat (l.map V) = l.map V := by
              intro l
              induction l with
              | nil => intro _; rfl
              | cons i l ih =>
                intro h
                have e1 := hVone i (h i (by simp))
                have e2 := ih fun j hj => h j (by simp [hj])
                simp only [flat, List.map_cons, List.flatMap_cons] at e2 ⊢
                rw [e1, e2]; rfl
            exact this _ fun i hi => List.mem_range.mp hi
          have hcell : ∀ i, i < len → w.cell? (a.add i) = some (V i) := fun i hi => (hx i (by omega)).1
          obtain ⟨b, off, sp⟩ := a
          have hsp : sp = none := by
            have h1 := hcell 0 h0
            simp only [Addr.add, if_true, World.cell?] at h1
            cases sp with
            | none => rfl
            | some k =>
              simp only [Option.isSome_some, if_true] at h1
              split at h1 <;> cases h1
          subst hsp
          have hadd2 : ∀ (o k : Nat), (⟨b, o, none⟩ : Addr).add k = ⟨b, o + k, none⟩ := fun o k => by
            rw [Addr.add]; split
            · rename_i hk; subst hk; rfl
            · rfl
          refine ⟨b, off, rfl, ?_, ?_⟩
          · have h1 := hcell (len - 1) (by omega)
            rw [hadd2] at h1
            have h2 := cell_lt h1
            simp only [List.length_map, List.length_range]
            omega
          · intro j y hj
            rw [hfl] at hj
            have hj2 : j < len := by
              rcases Nat.lt_or_ge j len with h | h
              · exact h
              · rw [List.getElem?_eq_none (by simpa using h)] at hj; cases hj
            simp only [List.getElem?_map, List.getElem?_range hj2, Option.map_some, Option.some.injEq] at hj
            have h5 := hcell j hj2
            rw [hadd2] at h5
            rw [h5, hj], fun _ => rfl, fun _ => rfl⟩
/-- Told in another way. -/
theorem Opn.as {α β : Type} {ok : α → Prop} {f : α → List HV} {n : Nat} (h : Opn P ν t ok f n) (ok' : β → Prop) (f' : β → List HV) (r : α → β) (h1 : ∀ a, ok a → ok' (r a)) (h2 : ∀ a, f' (r a) = f a) (h3 : ∀ b, (f' b).all HV.one = true) (h4 : ∀ b, (f' b).length = n) : Opn P ν t ok' f' n :=
  ⟨fun hx => by
    obtain ⟨a, g1, g2⟩ := h.ap hx
    exact ⟨r a, h1 a g1, by rw [h2]; exact g2⟩, h3, h4⟩
/-- The fields of a struct, from a place on. -/
structure Fds (P : Program) (ν : Nat → Option Nat) (fs : List Field) (off : Nat) {α : Type} (ok : α → Prop) (f : α → List HV) (n : Nat) : Prop where
  ap : ∀ {H : Type} {enc : TypeId × Value → H} {w : World} {base : Nat} {spare : Nat → Bool} {held : Bool} {fuel : Nat} {cs : List Value} {xs : List (DataW H × List MemPlace)}, xs.length = fs.length → cs.length = off + n →
    (∀ (i : Nat) (fd : Field), fs[i]? = some fd → DataW.trod enc P w base spare held fuel fd.type ((cs.drop fd.offset).take (P.cellsOf fd.type)) = xs[i]?) → ∃ a, ok a ∧ repL ν (sizes' w) w (f a) (cs.drop off)
  one : ∀ a, (f a).all HV.one = true
  len : ∀ a, (f a).length = n
theorem sizes_none {w : World} {b : Nat} (h : w.heap.size ≤ b) : sizes' w b = 0 := by simp only [sizes', Array.getElem?_eq_none h]
theorem opn_arg1 {H : Type} {enc : TypeId × Value → H} {w : World} {base : Nat} {sp : Nat → Bool} {held : Bool} {v : Value} {d : DataW H} {ps : List MemPlace} {α : Type} {ok : α → Prop} {g : α → HV} (ho : Opn P ν t ok (fun a => [g a]) 1) (h : DataW.Trod enc P w base sp held t v d ps) (hv : v.cells = #[v]) : ∃ a, ok a ∧ rep ν (sizes' w) w (g a) v := by
  obtain ⟨fuel, hf⟩ := h
  obtain ⟨a, h1, h2⟩ := ho.ap hf
  rw [hv] at h2
  simp only [repL] at h2
  obtain ⟨u, us, e, h3, rfl⟩ := h2
  cases e
  exact ⟨a, h1, h3⟩
theorem opn_argS {H : Type} {enc : TypeId × Value → H} {w : World} {base : Nat} {sp : Nat → Bool} {held : Bool} {cs : Array Value} {d : DataW H} {ps : List MemPlace} {α : Type} {ok : α → Prop} {f : α → List HV} {n : Nat} (ho : Opn P ν t ok f n) (h : DataW.Trod enc P w base sp held t (.agg cs) d ps) : ∃ a, ok a ∧ rep ν (sizes' w) w (.ag (f a)) (.agg cs) := by
  obtain ⟨fuel, hf⟩ := h
  obtain ⟨a, h1, h2⟩ := ho.ap hf
  refine ⟨a, h1, ?_⟩
  simp only [rep]
  exact ⟨cs.toList, by simp, ho.one a, h2⟩
/-- An array of elements of one cell. -/
theorem opn_arr1 {e : TypeId} {m : Nat} {α : Type} [Inhabited α] {ok : α → Prop} {g : α → HV} (ht : P.underlying t = some (.array m e)) (hc : P.cellsOf e = 1) (hm : P.cellsOf t = m) (he : Opn P ν e ok (fun a => [g a]) 1) :
    ∀ {H : Type} {enc : TypeId × Value → H} {w : World} {base : Nat} {spare : Nat → Bool} {held : Bool} {fuel : Nat} {cs : List Value} {x : DataW H × List MemPlace}, DataW.trod enc P w base spare held fuel t cs = some x → ∃ l : List α, l.length = m ∧ (∀ a ∈ l, ok a) ∧ repL ν (sizes' w) w (l.map g) cs := by
  intro H enc w base spare held fuel cs x hx
  obtain ⟨xs, k, _, _, hl, hx, hf⟩ := DataW.trod_array ht hx
  rw [hm] at hl
  have each : ∀ i, ∃ q : α, i < m → ok q ∧ ∃ v, cs[i]? = some v ∧ rep ν (sizes' w) w (g q) v := by
    intro i
    by_cases hi : i < m
    · have h2 := hf i hi
      rw [hc, Nat.mul_one, List.getElem?_eq_getElem (by omega)] at h2
      obtain ⟨y, g0, g1⟩ := he.ap h2
      simp only [repL] at g1
      obtain ⟨u, us, e1, e2, rfl⟩ := g1
      have h3 : ((cs.drop i).take 1)[0]? = some u := by rw [e1]; rfl
      exact ⟨y, fun _ => ⟨g0, u, by simpa using h3, e2⟩⟩
    · exact ⟨default, fun h => absurd h hi⟩
  obtain ⟨q, hq⟩ := Classical.axiomOfChoice each
  refine ⟨(List.range m).map q, by simp, ?_, ?_⟩
  · intro y hy
    simp only [List.mem_map, List.mem_range] at hy
    obtain ⟨i, hi, rfl⟩ := hy
    exact (hq i hi).1
  have hcs : cs = (List.range m).map fun i => cs.getD i undef := by
    apply List.ext_getElem
    · simp [hl]
    · intro i h1 h2; simp [h1]
  rw [hcs, List.map_map]
  refine repL_map _ _ _ fun i hi => ?_
  obtain ⟨_, v, h1, h2⟩ := hq i (List.mem_range.mp hi)
  simp only [Function.comp, List.getD_eq_getElem?_getD, h1, Option.getD_some]
  exact h2
end
end Sm
