/-
  A layer of one's own: texts Sr.
-/
import Derived.Test.YtmdfajhlofhmcaaGreatDoorSmCl
import Derived.Test.YtmdfajhlofhmcaaGreatDoorSmSc
import Derived.Test.YtmdfajhlofhmcaaGreatDoorSmSk
import Derived.Test.YtmdfajhlofhmcaaGreatDoorSmSl
import Derived.Test.YtmdfajhlofhmcaaGreatDoorSmLink
set_option linter.unusedVariables false
set_option maxRecDepth 100000
namespace Sm
open Go Go.Proofs Go.Maps
/-- The library's sort of texts, as the program has it. -/
theorem sortAt101 : SortAt1 Tryz.prog 101 where
  non := AnyF.slices_SortFunc_none { YtmdfajhlofhmcaaGreatDoor.sortE with }
  srt := fun enc h1 cf hO g cb blk off cap d w eg hcmp hH hblk hsz => Any.slices_SortFunc YtmdfajhlofhmcaaGreatDoor.sortE enc h1 cf hO g cb blk off cap d w eg hcmp hH hblk hsz
/-- The library's Collect over a map's keys, as the program has it. -/
theorem colAt : ColAt Tryz.prog 99 118 := ⟨_, YtmdfajhlofhmcaaGreatDoor.colE.t26, fun R w Bm b nn D0 hB hc ho hs => by
  refine (CallsIn.calls (F := Fence.wide) (AnyZ.collect_in YtmdfajhlofhmcaaGreatDoor.colE Fence.wide 3 trivial trivial rfl (Nat.le_refl _) 118 #[.pointer (some ⟨Bm, 0, none⟩)] trivial (YtmdfajhlofhmcaaGreatDoor.keysE.f10.enters rfl) (fun ss => ss.Perm (strKeys D0)) (Maps.size D0)
    (Nat.le_trans hs (by decide)) (Nat.le_trans (Nat.mul_le_mul_right 16 hs) (by decide)) w (AnyZ.keys_gives YtmdfajhlofhmcaaGreatDoor.keysE Fence.wide 1 trivial rfl (Nat.le_refl _) Bm b nn D0 w hB hc ho)) (fun k => by simp [Fence.room, Fence.wide])).mono ?_
  rintro e w' ⟨v, ss, he, hS, hrow, _, hb⟩
  exact ⟨v, ss, he, hS, hrow, hb⟩⟩
def nuTabQ : List (Nat × Nat) := [(34, 163), (79, 182), (80, 181), (102, 363), (110, 196), (111, 195), (124, 205), (125, 204), (139, 214), (140, 218), (150, 219), (153, 221)]
def nuQ : Nat → Option Nat := lk nuTabQ
theorem chkQ34 : chkF Tryz.prog nuQ Tryz.f34 sf163 = true := by kernel_rfl
theorem chkQ79 : chkF Tryz.prog nuQ Tryz.f79 sf182 = true := by kernel_rfl
theorem chkQ80 : chkF Tryz.prog nuQ Tryz.f80 sf181 = true := by kernel_rfl
theorem chkQ102 : chkF Tryz.prog nuQ Tryz.f102 sf363 = true := by kernel_rfl
theorem chkQ110 : chkF Tryz.prog nuQ Tryz.f110 sf196 = true := by kernel_rfl
theorem chkQ111 : chkF Tryz.prog nuQ Tryz.f111 sf195 = true := by kernel_rfl
theorem chkQ124 : chkF Tryz.prog nuQ Tryz.f124 sf205 = true := by kernel_rfl
theorem chkQ125 : chkF Tryz.prog nuQ Tryz.f125 sf204 = true := by kernel_rfl
theorem chkQ139 : chkF Tryz.prog nuQ Tryz.f139 sf214 = true := by kernel_rfl
theorem chkQ140 : chkF Tryz.prog nuQ Tryz.f140 sf218 = true := by kernel_rfl
theorem chkQ150 : chkF Tryz.prog nuQ Tryz.f150 sf219 = true := by kernel_rfl
theorem chkQ153 : chkF Tryz.prog nuQ Tryz.f153 sf221 = true := by kernel_rfl
/-- The comparison alone. -/
noncomputable def linkedQ : Linked code where
  P := Tryz.prog
  ν := nuQ
  mixed := by kernel_rfl
  link := by
    refine lk_all (l := nuTabQ) ?_
    intro q hq
    simp only [nuTabQ, List.mem_cons, List.not_mem_nil, or_false] at hq
    rcases hq with rfl | rfl | rfl | rfl | rfl | rfl | rfl | rfl | rfl | rfl | rfl | rfl
    · exact ⟨Tryz.f34, Tryz.func34, chkQ34⟩
    · exact ⟨Tryz.f79, Tryz.func79, chkQ79⟩
    · exact ⟨Tryz.f80, Tryz.func80, chkQ80⟩
    · exact ⟨Tryz.f102, Tryz.func102, chkQ102⟩
    · exact ⟨Tryz.f110, Tryz.func110, chkQ110⟩
    · exact ⟨Tryz.f111, Tryz.func111, chkQ111⟩
    · exact ⟨Tryz.f124, Tryz.func124, chkQ124⟩
    · exact ⟨Tryz.f125, Tryz.func125, chkQ125⟩
    · exact ⟨Tryz.f139, Tryz.func139, chkQ139⟩
    · exact ⟨Tryz.f140, Tryz.func140, chkQ140⟩
    · exact ⟨Tryz.f150, Tryz.func150, chkQ150⟩
    · exact ⟨Tryz.f153, Tryz.func153, chkQ153⟩
theorem lk_mem {g : Nat} : ∀ {tab : List (Nat × Nat)} {n : Nat}, lk tab n = some g → (n, g) ∈ tab
  | [], n, h => by simp [lk] at h
  | p :: tab, n, h => by
    rw [lk] at h
    split at h
    · rename_i h1
      obtain ⟨a, b⟩ := p
      simp only [Option.some.injEq] at h h1
      subst h
      simp_all
    · exact List.mem_cons_of_mem _ (lk_mem h)
theorem only {g n k : Nat} (hk : (nuTab.all fun p => !(p.2 == g) || p.1 == k) = true) (h : linked.ν n = some g) : n = k := by
  have h4 := List.all_eq_true.mp hk _ (lk_mem h)
  simpa using h4
theorem partQ : Part linked linkedQ 363 where
  P := rfl
  q := fun n h => by
    have h3 : (nuTabQ.all fun p => !(p.2 == 90)) = true := by decide +kernel
    have h4 := List.all_eq_true.mp h3 _ (lk_mem h)
    simp at h4
  c := fun n h => by
    have h2 : n = 102 := only (by decide +kernel) h
    subst h2; rfl
/-- What the disk asks of the library. -/
noncomputable def cl : Cl linked where
  cl := collect_spec linked (gk := 369) fun nn h1 mm h2 => by
    have e1 : nn = 99 := only (by decide +kernel) h1
    have e2 : mm = 118 := only (by decide +kernel) h2
    subst e1 e2
    exact colAt
  s1 := fun n h => by
    have e1 : n = 101 := only (by decide +kernel) h
    subst e1
    exact sortAt101
  Q := linkedQ
  pt := partQ
end Sm
