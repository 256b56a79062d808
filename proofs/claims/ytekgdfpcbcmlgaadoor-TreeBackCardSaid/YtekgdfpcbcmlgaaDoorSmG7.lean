/-
  A layer of one's own: texts G7.
-/
import Derived.Test.YtekgdfpcbcmlgaaDoorSmGC
import Derived.Test.YtekgdfpcbcmlgaaDoorSmTB
import Derived.Test.YtekgdfpcbcmlgaaDoorSmTC
import Derived.Test.YtekgdfpcbcmlgaaDoorSmLink
set_option linter.unusedVariables false
namespace Sm
open Go Go.Proofs
theorem cells9 : Tryd.prog.cellsOf 9 = 1 := by kernel_rfl
theorem cells4 : Tryd.prog.cellsOf 4 = 1 := by kernel_rfl
theorem cells5 : Tryd.prog.cellsOf 5 = 1 := by kernel_rfl
theorem cells25 : Tryd.prog.cellsOf 25 = 1 := by kernel_rfl
theorem cells27 : Tryd.prog.cellsOf 27 = 3 := by kernel_rfl
theorem opn9 : Opn Tryd.prog nu 9 (fun a : List UInt8 => a.length ≤ 9223372036854775807) (fun a => [S a]) 1 := opn_str Tryd.underlying9
theorem opn25 : Opn Tryd.prog nu 25 (fun l : List UInt8 => ∀ a ∈ l, True) (fun l => [.sl .no 1 (l.map U)]) 1 := opn_sl1 Tryd.underlying25 cells5 (opn_u8 Tryd.underlying5)
theorem opn27 : Opn Tryd.prog nu 27 (fun _ : Ent => True) cE 3 := by
  have h := opn_struct (ν := nu) Tryd.underlying27 (n := 1 + (1 + (1 + 0))) cells27 (fds_cons rfl cells9 opn9 (fds_cons rfl cells4 (opn_bool Tryd.underlying4) (fds_cons rfl cells25 opn25 fds_nil)))
  exact h.as _ _ (fun p => ⟨p.1, p.2.1, p.2.2.1⟩) (fun _ _ => trivial) (fun _ => rfl) (fun _ => rfl) (fun _ => rfl)
theorem opn22 : Opn Tryd.prog nu 22 (fun l : List Ent => ∀ a ∈ l, True) (fun l => [.sl .no 3 (l.map encE)]) 1 := opn_slag Tryd.underlying22 cells27 (by decide) opn27
end Sm
