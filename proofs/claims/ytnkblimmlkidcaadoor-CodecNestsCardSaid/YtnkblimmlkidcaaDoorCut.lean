/- strings.Cut at a separator of one byte. -/
import Derived.Test.YtnkblimmlkidcaaDoorKit
import Derived.Test.YtnkblimmlkidcaaDoorShelf
import Derived.Test.YtnkblimmlkidcaaDoorIdx
import Derived.Lib.Bytealg
import Derived.Deep.QuietTactic
import Derived.BigQuiet
import Derived.IntWalk
namespace Go.Proofs.YtnkblimmlkidcaaDoor
open Go.RowKit

def cutOk (s : ByteArray) (c : UInt8) : Bool := decide (0 ≤ cutI s c)
def cutB (s : ByteArray) (c : UInt8) : ByteArray := if 0 ≤ cutI s c then s.extract 0 (cutI s c).toNat else s
def cutA (s : ByteArray) (c : UInt8) : ByteArray := if 0 ≤ cutI s c then s.extract ((cutI s c).toNat + 1) s.size else ⟨#[]⟩
theorem ret3_eq {a b : ByteArray} {a' b' : ByteArray} {x y : Bool} (h1 : a = b) (h2 : a' = b') (h3 : x = y) : Ending.returned (.tuple #[.string a, .string a', .bool x]) = .returned (.tuple #[.string b, .string b', .bool y]) := by rw [h1, h2, h3]

set_option maxHeartbeats 1000000 in
theorem scut_any (s : ByteArray) (c : UInt8) (w : World) (hs : s.size ≤ 9223372036854775807) :
    Calls Tryd.prog 57 #[.string s, .string ⟨#[c]⟩] w fun e w' => e = .returned (.tuple #[.string (cutB s c), .string (cutA s c), .bool (cutOk s c)]) ∧ Below w.heap.size w w' := by
  have hI : Lib.indexByte s.data.toList c = cutI s c := rfl
  have hl := cutI_lt s c
  by_cases h : 0 ≤ cutI s c
  · have HB : Hid (cutB s c = s.extract 0 (cutI s c).toNat) := by show _ = _; rw [cutB, if_pos h]
    have HA : Hid (cutA s c = s.extract ((cutI s c).toNat + 1) s.size) := by show _ = _; rw [cutA, if_pos h]
    have HO : Hid (cutOk s c = true) := by show _ = _; rw [cutOk, decide_eq_true h]
    obtain ⟨i, hi⟩ := Int.eq_ofNat_of_zero_le h
    rw [hi, Int.toNat_natCast] at HB HA
    rw [hi] at hI hl
    have HI := Lib.hid hI
    clear hI hi h
    have hl' : i < s.size := by omega
    clear hl
    go_enter Tryd.func57, Tryd.ntmps57
    go_wp2_with fail
    refine (Tryd.stringslite_Index_one s c w).mono ?_
    rintro e w1 ⟨rfl, rfl⟩
    rw [HI.out]
    go_wp2_with fail
    have h1 : IntKind.i64.wrap ((i : Int) + 1) = (i : Int) + 1 := IntWalk.i64_in _ (by omega)
    go_quiet (fail)
    go_wp2_with fail
    go_ret3
    exact ⟨ret3_eq HB.out.symm HA.out.symm HO.out.symm, below_drewN (Below.refl _ _) _⟩
  · have HB : Hid (cutB s c = s) := by show _ = _; rw [cutB, if_neg h]
    have HA : Hid (cutA s c = ⟨#[]⟩) := by show _ = _; rw [cutA, if_neg h]
    have HO : Hid (cutOk s c = false) := by show _ = _; rw [cutOk, decide_eq_false h]
    generalize hz : cutI s c = z at *
    have HI := Lib.hid hI
    have hz0 : z < 0 := by omega
    clear hI hz h hl
    go_enter Tryd.func57, Tryd.ntmps57
    go_wp2_with fail
    refine (Tryd.stringslite_Index_one s c w).mono ?_
    rintro e w1 ⟨rfl, rfl⟩
    rw [HI.out]
    go_wp2_with fail
    go_ret3
    exact ⟨ret3_eq HB.out.symm HA.out.symm HO.out.symm, Below.refl _ _⟩
/-- strings.Cut. -/
theorem cut_any (s : ByteArray) (c : UInt8) (w : World) (hs : s.size ≤ 9223372036854775807) :
    Calls Tryd.prog 46 #[.string s, .string ⟨#[c]⟩] w fun e w' => e = .returned (.tuple #[.string (cutB s c), .string (cutA s c), .bool (cutOk s c)]) ∧ Below w.heap.size w w' := by
  go_enter Tryd.func46, Tryd.ntmps46
  go_wp2_with fail
  refine (scut_any s c w hs).mono ?_
  rintro e w1 ⟨rfl, hb⟩
  go_wp2_with fail
  go_ret3
  exact ⟨rfl, hb⟩
theorem cutB_size (s : ByteArray) (c : UInt8) : (cutB s c).size ≤ s.size := by
  unfold cutB
  split
  · simp [ByteArray.size_extract]; omega
  · exact Nat.le_refl _
theorem cutA_size (s : ByteArray) (c : UInt8) : (cutA s c).size ≤ s.size := by
  unfold cutA
  split
  · simp [ByteArray.size_extract]
  · exact Nat.zero_le _
end Go.Proofs.YtnkblimmlkidcaaDoor
