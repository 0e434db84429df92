/- identitylaw28.long. -/
import Derived.Test.YtfiogpoofpajcaaDoorStrs
namespace Go.Proofs.YtfiogpoofpajcaaDoor
open Go.RowKit

def longB (l : List ByteArray) : Bool := l.any fun s => decide (300 < s.size)
set_option maxHeartbeats 1000000 in
theorem long_any (l : List ByteArray) (A : Option Addr) (c : Nat) (w : World) (hS : Strs w A l) (hl : l.length ≤ 1000000) :
    Calls Tryd.prog 9 #[.slice A l.length c] w fun e w' => e = .returned (.bool (longB l)) ∧ w = w' := by
  go_enter Tryd.func9, Tryd.ntmps9
  go_wp2_with fail
  go_loop [3, 6] (fun _ j => ∃ k : Nat, k ≤ l.length ∧ j = .int .i64 k ∧ Hid (longB (l.take k) = false)) (fun _ i => l.length - (intOf i).toNat)
  case atStart => exact ⟨0, Nat.zero_le _, rfl, Lib.hid rfl⟩
  case round =>
    obtain ⟨k, hk, rfl, HA⟩ := hrel
    by_cases hlt : k < l.length
    · obtain ⟨b, o, rfl, hc⟩ := hS k hlt
      have HT : Hid (l.take (k + 1) = l.take k ++ [l[k]]) := by show _ = _; rw [List.take_succ_eq_append_getElem hlt]
      have HM : Hid (l[k] ∈ l) := List.getElem_mem hlt
      generalize l[k] = x at *
      by_cases hx : 300 < x.size
      · have HL : Hid (longB l = true) := by
          show _ = _
          rw [longB, List.any_eq_true]
          exact ⟨x, HM.out, by simpa using hx⟩
        go_wp2_with fail
        go_ret
        exact ⟨ret_bool HL.out.symm, rfl⟩
      · have HL : Hid (longB (l.take (k + 1)) = false) := by
          show _ = _
          rw [HT.out, longB, List.any_append, show (l.take k).any _ = false from HA.out]
          simpa using hx
        go_wp2_with fail
        go_round
        case rel => exact ⟨k + 1, by omega, by go_num, Lib.hid HL.out⟩
        case measure => simp [intOf]; omega
    · have HL : Hid (longB l = false) := by
        have h := HA.out
        rwa [List.take_of_length_le (by omega)] at h
      go_wp2_with fail
      go_ret
      exact ⟨ret_bool HL.out.symm, rfl⟩
theorem strs_lit (w : World) (l : List ByteArray) (t : TypeId) : Strs (w.alloc (.cells (l.map Value.string).toArray t)) (some ⟨w.heap.size, 0, none⟩) l := by
  intro i hi
  refine ⟨w.heap.size, 0, rfl, ?_⟩
  simp [go_sem, hi]
end Go.Proofs.YtfiogpoofpajcaaDoor
