/-
  A layer of one's own: texts G8.
-/
import Derived.Test.YtpfccegjkhaidaaGreatDoorSmGC
import Derived.Test.YtpfccegjkhaidaaGreatDoorSmTB
import Derived.Test.YtpfccegjkhaidaaGreatDoorSmTC
import Derived.Test.YtpfccegjkhaidaaGreatDoorSmLink
set_option linter.unusedVariables false
namespace Sm
open Go Go.Proofs
theorem cells9 : Tryz.prog.cellsOf 9 = 1 := by kernel_rfl
theorem cells4 : Tryz.prog.cellsOf 4 = 1 := by kernel_rfl
theorem cells5 : Tryz.prog.cellsOf 5 = 1 := by kernel_rfl
theorem cells47 : Tryz.prog.cellsOf 47 = 1 := by kernel_rfl
theorem cells49 : Tryz.prog.cellsOf 49 = 3 := by kernel_rfl
theorem cells24 : Tryz.prog.cellsOf 24 = 2 := by kernel_rfl
theorem opn9 : Opn Tryz.prog nu 9 (fun a : List UInt8 => a.length ≤ 9223372036854775807) (fun a => [S a]) 1 := opn_str Tryz.underlying9
theorem opn47 : Opn Tryz.prog nu 47 (fun l : List UInt8 => ∀ a ∈ l, True) (fun l => [.sl .no 1 (l.map U)]) 1 := opn_sl1 Tryz.underlying47 cells5 (opn_u8 Tryz.underlying5)
theorem opn49 : Opn Tryz.prog nu 49 (fun _ : Ent => True) cE 3 := by
  have h := opn_struct (ν := nu) Tryz.underlying49 (n := 1 + (1 + (1 + 0))) cells49 (fds_cons rfl cells9 opn9 (fds_cons rfl cells4 (opn_bool Tryz.underlying4) (fds_cons rfl cells47 opn47 fds_nil)))
  exact h.as _ _ (fun p => ⟨p.1, p.2.1, p.2.2.1⟩) (fun _ _ => trivial) (fun _ => rfl) (fun _ => rfl) (fun _ => rfl)
theorem opn22 : Opn Tryz.prog nu 22 (fun l : List Ent => ∀ a ∈ l, True) (fun l => [.sl .no 3 (l.map encE)]) 1 := opn_slag Tryz.underlying22 cells49 (by decide) opn49
theorem opn24 : Opn Tryz.prog nu 24 (fun _ : Bool × Bool => True) (fun p => [B p.1, B p.2]) 2 := by
  have h := opn_struct (ν := nu) Tryz.underlying24 (n := 1 + (1 + 0)) cells24 (fds_cons rfl cells4 (opn_bool Tryz.underlying4) (fds_cons rfl cells4 (opn_bool Tryz.underlying4) fds_nil))
  exact h.as _ _ (fun p => ⟨p.1, p.2.1⟩) (fun _ _ => trivial) (fun _ => rfl) (fun _ => rfl) (fun _ => rfl)
end Sm
