/-
  GJ
-/
import Derived.Test.YtegmmhldpmmkeaaGreatDoorSmTb
import Derived.Test.YtegmmhldpmmkeaaGreatDoorSmIt
import Derived.Test.YtegmmhldpmmkeaaGreatDoorSmSi
import Derived.Test.YtegmmhldpmmkeaaGreatDoorSmJK
import Derived.Test.YtegmmhldpmmkeaaGreatDoorSmTA
import Derived.Test.YtegmmhldpmmkeaaGreatDoorRows
import Derived.Shelf.Strconv.Itoa3
import Derived.LaidMore
import Derived.Lay
set_option linter.unusedVariables false
set_option maxRecDepth 100000
namespace Sm
open Go Go.Proofs Go.RowKit
theorem cells3 : Tryz.prog.cellsOf 3 = 1 := by kernel_rfl
theorem cells4 : Tryz.prog.cellsOf 4 = 1 := by kernel_rfl
theorem cells5 : Tryz.prog.cellsOf 5 = 1 := by kernel_rfl
theorem cells9 : Tryz.prog.cellsOf 9 = 1 := by kernel_rfl
theorem cells35 : Tryz.prog.cellsOf 35 = 32 := by kernel_rfl
theorem cells37 : Tryz.prog.cellsOf 37 = 37 := by kernel_rfl
theorem cells38 : Tryz.prog.cellsOf 38 = 1 := by kernel_rfl
theorem cells40 : Tryz.prog.cellsOf 40 = 6 := by kernel_rfl
theorem cells42 : Tryz.prog.cellsOf 42 = 44 := by kernel_rfl
theorem opn9 : Opn Tryz.prog nu 9 (fun a : List UInt8 => a.length ≤ 9223372036854775807) (fun a => [S a]) 1 := opn_str Tryz.underlying9
theorem opn38 : Opn Tryz.prog nu 38 (fun l : List UInt8 => ∀ a ∈ l, True) (fun l => [.sl .no 1 (l.map U)]) 1 := opn_sl1 Tryz.underlying38 cells5 (opn_u8 Tryz.underlying5)
theorem sumC_map {s : List UInt8} (h : s.length = 32) : sumC s = s.map U := by
 have e : sumC s = (sum32 s).map U := rfl
 rw [e, sum32_32 h]
theorem opn35 : Opn Tryz.prog nu 35 (fun s : List UInt8 => s.length = 32) (fun s => sumC s) 32 :=
 ⟨fun h => by
   obtain ⟨l, hl, _, hr⟩ := opn_arr1 (ν := nu) (ok := fun _ : UInt8 => True) (g := fun a : UInt8 => U a) Tryz.underlying35 cells5 cells35 (opn_u8 Tryz.underlying5) h
   exact ⟨l, hl, by rw [sumC_map hl]; exact hr⟩, fun _ => rfl, fun _ => rfl⟩
theorem opn37 : Opn Tryz.prog nu 37 (fun r : Rc => r.sum.length = 32) rcC 37 := by
 have h := opn_struct (ν := nu) Tryz.underlying37 (n := 1 + (1 + (1 + (32 + (1 + (1 + 0)))))) cells37 (fds_cons rfl cells5 (opn_u8 Tryz.underlying5) (fds_cons rfl cells3 (opn_i64 Tryz.underlying3) (fds_cons rfl cells9 opn9 (fds_cons rfl cells35 opn35 (fds_cons rfl cells3 (opn_i64 Tryz.underlying3) (fds_cons rfl cells3 (opn_i64 Tryz.underlying3) fds_nil))))))
 exact h.as _ _ (fun p => ⟨p.1, p.2.1, p.2.2.1, p.2.2.2.1, p.2.2.2.2.1, p.2.2.2.2.2.1⟩) (fun p hp => hp.2.2.2.1) (fun _ => rfl) (fun _ => rfl) (fun _ => rfl)
theorem opn40 : Opn Tryz.prog nu 40 (fun a : Ak => True) akC 6 := by
 have h := opn_struct (ν := nu) Tryz.underlying40 (n := 1 + (1 + (1 + (1 + (1 + (1 + 0)))))) cells40 (fds_cons rfl cells5 (opn_u8 Tryz.underlying5) (fds_cons rfl cells9 opn9 (fds_cons rfl cells9 opn9 (fds_cons rfl cells38 opn38 (fds_cons rfl cells3 (opn_i64 Tryz.underlying3) (fds_cons rfl cells4 (opn_bool Tryz.underlying4) fds_nil))))))
 exact h.as _ _ (fun p => ⟨p.1, p.2.1, p.2.2.1, p.2.2.2.1, p.2.2.2.2.1, p.2.2.2.2.2.1⟩) (fun p hp => trivial) (fun _ => rfl) (fun _ => rfl) (fun _ => rfl)
instance : Inhabited Ac := ⟨⟨0, zR, default⟩⟩
theorem opn42 : Opn Tryz.prog nu 42 okAc acC 44 := by
 have h := opn_struct (ν := nu) Tryz.underlying42 (n := 1 + (37 + (6 + 0))) cells42 (fds_cons rfl cells5 (opn_u8 Tryz.underlying5) (fds_cons rfl cells37 opn37 (fds_cons rfl cells40 opn40 fds_nil)))
 exact h.as _ _ (fun p => ⟨p.1, p.2.1, p.2.2.1⟩) (fun p hp => hp.2.1) (fun _ => rfl) (fun _ => rfl) (fun _ => rfl)
theorem opn22 : Opn Tryz.prog nu 22 (fun l : List Ac => ∀ a ∈ l, okAc a) (fun l => [.sl .no 44 (l.map acV)]) 1 := opn_slag Tryz.underlying22 cells42 (by decide) opn42
theorem opn5 : Opn Tryz.prog nu 5 (fun _ : UInt8 => True) (fun a => [U a]) 1 := opn_u8 Tryz.underlying5
theorem ten_data : (YtegmmhldpmmkeaaGreatDoor.Rows.laid_internal_strconv_uint64pow10 : DataW Unit) = Lib.tabData .u64 Lib.pow10Tab := by kernel_rfl
theorem crc_data : (YtegmmhldpmmkeaaGreatDoor.Rows.laid_sumpter_crc_table : DataW Unit) = Lib.tabData .u32 crcTab := by kernel_rfl
theorem tabs_row {W : World} (h : laidMetH Tryz.prog YtegmmhldpmmkeaaGreatDoor.Rows.journalKeepsRow.laid W) : Tabs nu (sizes' W) W := by
 rw [MakeChecks.laidMetH_plain _ _ _ (by kernel_rfl)] at h
 have h2 : laidMet Tryz.prog [("math/bits.deBruijn32tab", YtegmmhldpmmkeaaGreatDoor.Rows.laid_math_bits_deBruijn32tab), ("math/bits.deBruijn64tab", YtegmmhldpmmkeaaGreatDoor.Rows.laid_math_bits_deBruijn64tab), ("internal/strconv.uint64pow10", YtegmmhldpmmkeaaGreatDoor.Rows.laid_internal_strconv_uint64pow10), ("unicode/utf8.acceptRanges", YtegmmhldpmmkeaaGreatDoor.Rows.laid_unicode_utf8_acceptRanges), ("sumpter/crc.table", YtegmmhldpmmkeaaGreatDoor.Rows.laid_sumpter_crc_table), ("unicode/utf8.first", YtegmmhldpmmkeaaGreatDoor.Rows.laid_unicode_utf8_first)] W := h
 have t3 := h2.tail.tail
 have t5 := t3.tail.tail
 rw [ten_data] at t3
 rw [crc_data] at t5
 exact tabs_of (Lib.tabIs_of_head (g := 0) (t := 304) (e := 264) (n := 20) (by kernel_rfl) (by kernel_rfl) Tryz.underlying304 Tryz.underlying264 (by kernel_rfl) (by kernel_rfl) t3) (Lib.tabIs_of_head (g := 1) (t := 306) (e := 83) (n := 16) (by kernel_rfl) (by kernel_rfl) Tryz.underlying306 Tryz.underlying83 (by kernel_rfl) (by kernel_rfl) t5)
noncomputable def jc : JC linked where
 cl := cl
 it := fun n hn H K hk => it_spec linked (fun nn h1 => by
   have e1 : nn = 88 := only (by decide +kernel) h1
   subst e1
   exact fun i hi w => Any.strconv_Itoa_small YtegmmhldpmmkeaaGreatDoor.itoE i hi w) n hn H K hk
end Sm
