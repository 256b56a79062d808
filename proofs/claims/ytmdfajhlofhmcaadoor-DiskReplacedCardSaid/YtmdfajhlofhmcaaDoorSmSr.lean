/-
  A layer of one's own: texts Sr.
-/
import Derived.Test.YtmdfajhlofhmcaaDoorSmCl
import Derived.Test.YtmdfajhlofhmcaaDoorSmSc
import Derived.Test.YtmdfajhlofhmcaaDoorSmSk
import Derived.Test.YtmdfajhlofhmcaaDoorSmSl
import Derived.Test.YtmdfajhlofhmcaaDoorSmLink
set_option linter.unusedVariables false
set_option maxRecDepth 100000
namespace Sm
open Go Go.Proofs Go.Maps
/-- The library's sort of texts, as the program has it. -/
theorem sortAt45 : SortAt1 Tryd.prog 45 where
  non := AnyF.slices_SortFunc_none { YtmdfajhlofhmcaaDoor.sortE with }
  srt := fun enc h1 cf hO g cb blk off cap d w eg hcmp hH hblk hsz => Any.slices_SortFunc YtmdfajhlofhmcaaDoor.sortE enc h1 cf hO g cb blk off cap d w eg hcmp hH hblk hsz
/-- The library's Collect over a map's keys, as the program has it. -/
theorem colAt : ColAt Tryd.prog 43 54 := ⟨_, YtmdfajhlofhmcaaDoor.colE.t26, fun R w Bm b nn D0 hB hc ho hs => by
  refine (CallsIn.calls (F := Fence.wide) (AnyZ.collect_in YtmdfajhlofhmcaaDoor.colE Fence.wide 3 trivial trivial rfl (Nat.le_refl _) 54 #[.pointer (some ⟨Bm, 0, none⟩)] trivial (YtmdfajhlofhmcaaDoor.keysE.f10.enters rfl) (fun ss => ss.Perm (strKeys D0)) (Maps.size D0)
    (Nat.le_trans hs (by decide)) (Nat.le_trans (Nat.mul_le_mul_right 16 hs) (by decide)) w (AnyZ.keys_gives YtmdfajhlofhmcaaDoor.keysE Fence.wide 1 trivial rfl (Nat.le_refl _) Bm b nn D0 w hB hc ho)) (fun k => by simp [Fence.room, Fence.wide])).mono ?_
  rintro e w' ⟨v, ss, he, hS, hrow, _, hb⟩
  exact ⟨v, ss, he, hS, hrow, hb⟩⟩
def nuTabQ : List (Nat × Nat) := [(46, 363), (47, 163), (48, 181), (57, 182), (58, 195), (71, 196), (72, 204), (80, 205), (82, 214), (83, 218), (89, 219), (91, 221)]
def nuQ : Nat → Option Nat := lk nuTabQ
theorem chkQ46 : chkF Tryd.prog nuQ Tryd.f46 sf363 = true := by kernel_rfl
theorem chkQ47 : chkF Tryd.prog nuQ Tryd.f47 sf163 = true := by kernel_rfl
theorem chkQ48 : chkF Tryd.prog nuQ Tryd.f48 sf181 = true := by kernel_rfl
theorem chkQ57 : chkF Tryd.prog nuQ Tryd.f57 sf182 = true := by kernel_rfl
theorem chkQ58 : chkF Tryd.prog nuQ Tryd.f58 sf195 = true := by kernel_rfl
theorem chkQ71 : chkF Tryd.prog nuQ Tryd.f71 sf196 = true := by kernel_rfl
theorem chkQ72 : chkF Tryd.prog nuQ Tryd.f72 sf204 = true := by kernel_rfl
theorem chkQ80 : chkF Tryd.prog nuQ Tryd.f80 sf205 = true := by kernel_rfl
theorem chkQ82 : chkF Tryd.prog nuQ Tryd.f82 sf214 = true := by kernel_rfl
theorem chkQ83 : chkF Tryd.prog nuQ Tryd.f83 sf218 = true := by kernel_rfl
theorem chkQ89 : chkF Tryd.prog nuQ Tryd.f89 sf219 = true := by kernel_rfl
theorem chkQ91 : chkF Tryd.prog nuQ Tryd.f91 sf221 = true := by kernel_rfl
/-- The comparison alone. -/
noncomputable def linkedQ : Linked code where
  P := Tryd.prog
  ν := nuQ
  mixed := by kernel_rfl
  link := by
    refine lk_all (l := nuTabQ) ?_
    intro q hq
    simp only [nuTabQ, List.mem_cons, List.not_mem_nil, or_false] at hq
    rcases hq with rfl | rfl | rfl | rfl | rfl | rfl | rfl | rfl | rfl | rfl | rfl | rfl
    · exact ⟨Tryd.f46, Tryd.func46, chkQ46⟩
    · exact ⟨Tryd.f47, Tryd.func47, chkQ47⟩
    · exact ⟨Tryd.f48, Tryd.func48, chkQ48⟩
    · exact ⟨Tryd.f57, Tryd.func57, chkQ57⟩
    · exact ⟨Tryd.f58, Tryd.func58, chkQ58⟩
    · exact ⟨Tryd.f71, Tryd.func71, chkQ71⟩
    · exact ⟨Tryd.f72, Tryd.func72, chkQ72⟩
    · exact ⟨Tryd.f80, Tryd.func80, chkQ80⟩
    · exact ⟨Tryd.f82, Tryd.func82, chkQ82⟩
    · exact ⟨Tryd.f83, Tryd.func83, chkQ83⟩
    · exact ⟨Tryd.f89, Tryd.func89, chkQ89⟩
    · exact ⟨Tryd.f91, Tryd.func91, chkQ91⟩
theorem lk_mem {g : Nat} : ∀ {tab : List (Nat × Nat)} {n : Nat}, lk tab n = some g → (n, g) ∈ tab
  | [], n, h => by simp [lk] at h
  | p :: tab, n, h => by
    rw [lk] at h
    split at h
    · rename_i h1
      obtain ⟨a, b⟩ := p
      simp only [Option.some.injEq] at h h1
      subst h
      simp_all
    · exact List.mem_cons_of_mem _ (lk_mem h)
theorem only {g n k : Nat} (hk : (nuTab.all fun p => !(p.2 == g) || p.1 == k) = true) (h : linked.ν n = some g) : n = k := by
  have h4 := List.all_eq_true.mp hk _ (lk_mem h)
  simpa using h4
theorem partQ : Part linked linkedQ 363 where
  P := rfl
  q := fun n h => by
    have h3 : (nuTabQ.all fun p => !(p.2 == 90)) = true := by decide +kernel
    have h4 := List.all_eq_true.mp h3 _ (lk_mem h)
    simp at h4
  c := fun n h => by
    have h2 : n = 46 := only (by decide +kernel) h
    subst h2; rfl
/-- What the disk asks of the library. -/
noncomputable def cl : Cl linked where
  cl := collect_spec linked (gk := 369) fun nn h1 mm h2 => by
    have e1 : nn = 43 := only (by decide +kernel) h1
    have e2 : mm = 54 := only (by decide +kernel) h2
    subst e1 e2
    exact colAt
  s1 := fun n h => by
    have e1 : n = 45 := only (by decide +kernel) h
    subst e1
    exact sortAt45
  Q := linkedQ
  pt := partQ
end Sm
