/- Plain: what is read from bytes of records that are known. -/
import Derived.Test.YtkhdhelhkokdcaaDoorJrnDec
namespace Go.Proofs.YtkhdhelhkokdcaaDoor
open Go.RowKit

theorem short_none {s : ByteArray} (h : s.size < 19) : firstO s = none := by
  rw [firstO_none]
  intro r hg
  have h1 := good_size hg
  have h2 := encS_len r
  obtain ⟨_, hp⟩ := hg
  rw [Lib.hasPrefix, List.isPrefixOf_iff_prefix] at hp
  have h3 := hp.length_le
  have e1 : (encS r).data.toList.length = (encS r).size := by simp
  have e2 : s.data.toList.length = s.size := by simp
  omega
/-- Records, and too few bytes behind them. -/
theorem dec_of {s : ByteArray} {l : List ByteArray} {x : List UInt8} (h : s.data.toList = encL l ++ x) (hx : x.length < 19) (hl : ∀ r ∈ l, r.size ≤ 4096) : Dec s l (encL l).length := by
  have e2 : s.data.toList.length = s.size := by simp
  have hz : s.size = (encL l).length + x.length := by rw [← e2, h, List.length_append]
  refine ⟨by omega, by rw [h, List.take_left], hl, short_none ?_⟩
  rw [ByteArray.size_extract]; omega
end Go.Proofs.YtkhdhelhkokdcaaDoor
