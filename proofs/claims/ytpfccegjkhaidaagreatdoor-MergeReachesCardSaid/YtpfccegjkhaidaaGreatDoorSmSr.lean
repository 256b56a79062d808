/-
  A layer of one's own: texts Sr.
-/
import Derived.Test.YtpfccegjkhaidaaGreatDoorSmSo
import Derived.Test.YtpfccegjkhaidaaGreatDoorSmSl
import Derived.Test.YtpfccegjkhaidaaGreatDoorSmMB
import Derived.Test.YtpfccegjkhaidaaGreatDoorSmLink
set_option linter.unusedVariables false
namespace Sm
open Go Go.Proofs
/-- The library's sort, as the program has it. -/
theorem sortAt29 : SortAt Tryz.prog 29 3 where
  non := AnyF.slices_SortFunc_none YtpfccegjkhaidaaGreatDoor.sortE
  srt := fun enc hk h1 cf hO g cb blk off cap d w eg hcmp hH hblk hsz => AnyQ.slices_SortFunc YtpfccegjkhaidaaGreatDoor.sortE 3 (fun w => Tryz.isAgg49 w) (fun w => Tryz.sizeOf49 w) enc hk h1 cf hO g cb blk off cap d w eg hcmp hH hblk hsz
theorem lk_mem {g : Nat} : ∀ {tab : List (Nat × Nat)} {n : Nat}, lk tab n = some g → (n, g) ∈ tab
  | [], n, h => by simp [lk] at h
  | p :: tab, n, h => by
    rw [lk] at h
    split at h
    · rename_i h1
      obtain ⟨a, b⟩ := p
      simp only [Option.some.injEq] at h h1
      subst h
      simp_all
    · exact List.mem_cons_of_mem _ (lk_mem h)
theorem srt29 : Srt linked where
  e := fun n h => by
    have h2 : n = 29 := by
      have h3 : (nuTab.all fun p => !(p.2 == 249) || p.1 == 29) = true := by decide +kernel
      have h4 := List.all_eq_true.mp h3 _ (lk_mem h)
      simpa using h4
    subst h2
    exact sortAt29
end Sm
