/- identityref02.First. -/
import Derived.Test.YtnkblimmlkidcaaDoorKit
import Derived.Test.YtnkblimmlkidcaaDoorIdx
namespace Go.Proofs.YtnkblimmlkidcaaDoor
open Go.RowKit

theorem cutI_none {s : ByteArray} {c : UInt8} (h : c ∉ s.data.toList) : cutI s c = -1 := by
  have hg := Lib.indexByte_ge s.data.toList c
  by_cases h0 : 0 ≤ cutI s c
  · obtain ⟨i, hi⟩ := Int.eq_ofNat_of_zero_le h0
    have := ((cutI_eq s c i).1 hi).2
    exact absurd (List.mem_iff_getElem?.2 ⟨i, this⟩) h
  · have : cutI s c = Lib.indexByte s.data.toList c := rfl
    omega
theorem not_take {s : ByteArray} {c : UInt8} {k : Nat} (hk : k < s.size) (hc : s[k] ≠ c) (hn : c ∉ s.data.toList.take k) : c ∉ s.data.toList.take (k + 1) := by
  have hl : k < s.data.toList.length := by simpa using hk
  rw [List.take_succ_eq_append_getElem hl]
  intro h
  rw [List.mem_append] at h
  rcases h with h | h
  · exact hn h
  · rw [List.mem_singleton] at h; exact hc h.symm
set_option maxHeartbeats 1000000 in
theorem rfirst_any (s : ByteArray) (c : UInt8) (w : World) (hs : s.size ≤ 9223372036854775807) :
    Calls Tryd.prog 47 #[.string s, .int .u8 (c.toNat : Int)] w fun e w' => e = .returned (.int .i64 (cutI s c)) ∧ w = w' := by
  go_enter Tryd.func47, Tryd.ntmps47
  go_wp2_with fail
  go_loop [5] (fun i => ∃ k : Nat, k ≤ s.size ∧ i = .int .i64 k ∧ Hid (c ∉ s.data.toList.take k)) (fun i => s.size - (intOf i).toNat)
  case atStart => exact ⟨0, Nat.zero_le _, rfl, Lib.hid (by simp)⟩
  case round =>
    obtain ⟨k, hk, rfl, HN⟩ := hrel
    by_cases hlt : k < s.size
    · by_cases hc : s[k] = c
      · have hceq : ((s[k].toNat : Int) == (c.toNat : Int)) = true := by rw [hc]; simp
        have HV : Hid (cutI s c = k) := Lib.hid ((cutI_eq s c k).2 ⟨HN.out, by rw [List.getElem?_eq_getElem (by simpa using hlt)]; exact congrArg some hc⟩)
        clear hc
        go_wp2_with fail
        go_ret
        exact ⟨ret_int HV.out.symm, rfl⟩
      · have HC := Lib.hid hc
        have hcne : ((s[k].toNat : Int) == (c.toNat : Int)) = false := by
          rw [beq_eq_false_iff_ne]
          intro e
          exact hc (UInt8.toNat_inj.1 (by omega))
        clear hc
        go_wp2_with fail
        go_round
        case rel => exact ⟨k + 1, hlt, by go_num, Lib.hid (not_take hlt HC.out HN.out)⟩
        case measure => simp [intOf]; omega
    · have HV : Hid (cutI s c = -1) := Lib.hid (cutI_none (by have h := HN.out; rwa [List.take_of_length_le (by simp; omega)] at h))
      go_wp2_with fail
      go_ret
      exact ⟨ret_int HV.out.symm, rfl⟩
end Go.Proofs.YtnkblimmlkidcaaDoor
