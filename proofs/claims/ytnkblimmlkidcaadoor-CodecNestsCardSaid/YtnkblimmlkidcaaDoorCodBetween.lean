/- identityref02.Between. -/
import Derived.Test.YtnkblimmlkidcaaDoorCodJoinP
import Derived.Test.YtnkblimmlkidcaaDoorStrs
namespace Go.Proofs.YtnkblimmlkidcaaDoor
open Go.RowKit

theorem empty_app (s : ByteArray) : (⟨#[]⟩ : ByteArray) ++ s = s := by apply ByteArray.ext; simp
set_option maxHeartbeats 1000000 in
theorem between_any (l : List ByteArray) (c : UInt8) (A : Option Addr) (cap : Nat) (w : World) (hS : Strs w A l) (hl : l.length ≤ 1000000) (hz : ∀ s ∈ l, s.size ≤ 1000000) :
    Calls Tryd.prog 44 #[.slice A l.length cap, .string ⟨#[c]⟩] w fun e w' => e = .returned (.string (joinC c l)) ∧ Below w.heap.size w w' := by
  go_enter Tryd.func44, Tryd.ntmps44
  go_wp2_with fail
  go_loopw [5, 6] (fun o i wr => ∃ k : Nat, k ≤ l.length ∧ i = .int .i64 k ∧ o = .string (joinC c (l.take k)) ∧ Below w.heap.size w wr) (fun _ i _ => l.length - (intOf i).toNat)
  case atStart => exact ⟨0, Nat.zero_le _, rfl, by rw [joinC_zero], Below.refl _ _⟩
  case round =>
    obtain ⟨k, hk, rfl, rfl, hbr⟩ := hrel
    by_cases hlt : k < l.length
    · obtain ⟨b, o, rfl, hcell⟩ := (hS.below hbr) k hlt
      have hsz : l[k].size ≤ 1000000 := hz _ (List.getElem_mem hlt)
      have hjs := joinC_size c l 1000000 hz k hk
      have hj2 : (joinC c (l.take k)).size ≤ 1000001000000 := by
        refine Nat.le_trans hjs ?_
        have : k * 1000001 ≤ 1000000 * 1000001 := Nat.mul_le_mul_right _ (by omega)
        omega
      by_cases h0 : k = 0
      · subst h0
        have HJ := Lib.hid (joinC_zero c l)
        have HJ1 : Hid (joinC c (l.take 1) = ⟨#[]⟩ ++ l[0]) := by show _ = _; rw [take_one l hlt, joinC_one, empty_app]
        rw [HJ.out]
        clear hjs hj2
        have hc0 : wr.cell? ⟨b, o, none⟩ = some (.string l[0]) := by simpa using hcell
        have s0 : ¬ 9223372036854775807 < l[0].size := by omega
        clear hcell
        go_wp2_with fail
        go_roundw
        case rel => exact ⟨1, hlt, rfl, by rw [HJ1.out], hbr⟩
        case measure => simp [intOf]; omega
      · have HJ := Lib.hid (joinC_snoc c l k (by omega) hlt)
        generalize joinC c (l.take k) = pre at *
        have s1 : ¬ 9223372036854775807 < pre.size + 1 := by omega
        have s2 : ¬ 9223372036854775807 < pre.size + 1 + l[k].size := by omega
        clear hjs
        go_wp2_with fail
        go_roundw
        case rel => exact ⟨k + 1, hlt, by go_num, by rw [HJ.out], hbr⟩
        case measure => simp [intOf]; omega
    · have HE := Lib.hid (joinC_all c l k hlt)
      go_wp2_with fail
      go_ret
      exact ⟨ret_str HE.out, hbr⟩
end Go.Proofs.YtnkblimmlkidcaaDoor
