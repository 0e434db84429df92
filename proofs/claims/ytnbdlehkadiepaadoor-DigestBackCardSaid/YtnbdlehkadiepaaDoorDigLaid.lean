/- What the rows' listed variables give the walks: the digits' table and the table of powers of ten. -/
import Derived.Test.YtnbdlehkadiepaaDoorRows
import Derived.Test.YtnbdlehkadiepaaDoorLawKit
import Derived.Test.YtnbdlehkadiepaaDoorDigMac
namespace Go.Proofs.YtnbdlehkadiepaaDoor
open Go.ChangeShapes Go.WideShapes Go.ChangeAt Go.RowKit

def laidList : List (String × DataW Unit) := Rows.digestSumsRow.laid
theorem laid_tabs {W : World} (h : laidMetH Tryd.prog laidList W) : DigOk W ∧ PowOk W := by
  rw [MakeChecks.laidMetH_plain _ _ _ (by kernel_rfl)] at h
  have h3 : laidMet Tryd.prog _ W := h.tail.tail
  have h4 : laidMet Tryd.prog _ W := h3.tail
  have t3 := Lib.tabIs_of_head (P := Tryd.prog) (W := W) (k := .u64) (zs := Lib.pow10Tab) (g := 1) (t := 60) (e := 22) (n := 20) (by kernel_rfl) (by kernel_rfl) Tryd.underlying60 Tryd.underlying22 (by kernel_rfl) (by kernel_rfl) h3
  have t4 := Lib.tabIs_of_head (P := Tryd.prog) (W := W) (k := .u8) (zs := [48, 49, 50, 51, 52, 53, 54, 55, 56, 57, 97, 98, 99, 100, 101, 102]) (g := 0) (t := 49) (e := 5) (n := 16) (by kernel_rfl) (by kernel_rfl) Tryd.underlying49 Tryd.underlying5 (by kernel_rfl) (by kernel_rfl) h4
  obtain ⟨t, fr, hb⟩ := tab_block (g := 0) (by kernel_rfl) t4
  exact ⟨⟨t, fr, hb⟩, ⟨1, by kernel_rfl, tab_lt (by kernel_rfl) t3⟩, t3⟩
end Go.Proofs.YtnbdlehkadiepaaDoor
