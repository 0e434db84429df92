/- What the rows' listed variables give the walks: the digits' table and the table of powers of ten. -/
import Derived.Test.YtfiogpoofpajcaaDoorRows
import Derived.Test.YtfiogpoofpajcaaDoorLawKit
import Derived.Test.YtfiogpoofpajcaaDoorPfLive
import Derived.Test.YtfiogpoofpajcaaDoorPfLong
namespace Go.Proofs.YtfiogpoofpajcaaDoor
open Go.ChangeShapes Go.WideShapes Go.ChangeAt Go.RowKit

def laidList : List (String × DataW Unit) := Rows.proofChallengesRow.laid
theorem laid_tabs {W : World} (h : laidMetH Tryd.prog laidList W) : DigOk W ∧ PowOk W := by
  rw [MakeChecks.laidMetH_plain _ _ _ (by kernel_rfl)] at h
  have h3 : laidMet Tryd.prog _ W := h.tail.tail
  have h4 : laidMet Tryd.prog _ W := h3.tail
  have t3 := Lib.tabIs_of_head (P := Tryd.prog) (W := W) (k := .u64) (zs := Lib.pow10Tab) (g := 2) (t := 78) (e := 49) (n := 20) (by kernel_rfl) (by kernel_rfl) Tryd.underlying78 Tryd.underlying49 (by kernel_rfl) (by kernel_rfl) h3
  have t4 := Lib.tabIs_of_head (P := Tryd.prog) (W := W) (k := .u8) (zs := [48, 49, 50, 51, 52, 53, 54, 55, 56, 57, 97, 98, 99, 100, 101, 102]) (g := 0) (t := 65) (e := 5) (n := 16) (by kernel_rfl) (by kernel_rfl) Tryd.underlying65 Tryd.underlying5 (by kernel_rfl) (by kernel_rfl) h4
  obtain ⟨t, fr, hb⟩ := tab_block (g := 0) (by kernel_rfl) t4
  exact ⟨⟨t, fr, hb⟩, ⟨2, by kernel_rfl, tab_lt (by kernel_rfl) t3⟩, t3⟩
theorem nonempty_of {s : ByteArray} (h : s ≠ ⟨#[]⟩) : s.toList.isEmpty = false := by
  rw [Lib.toList_data]
  cases hl : s.data.toList with
  | nil => exact absurd (ByteArray.ext (Array.toList_inj.1 hl)) h
  | cons a l => rfl
theorem empty_of {s : ByteArray} (h : s = ⟨#[]⟩) : s.toList.isEmpty = true := by rw [h, Lib.toList_data]; rfl
theorem longB_small {l : List ByteArray} (h : longB l = false) : ∀ s ∈ l, s.size ≤ 300 := by
  intro s hs
  rw [longB, List.any_eq_false] at h
  have := h s hs
  simpa using this
end Go.Proofs.YtfiogpoofpajcaaDoor
