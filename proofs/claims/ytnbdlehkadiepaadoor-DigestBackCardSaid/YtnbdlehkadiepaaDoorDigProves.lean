/- digest.Proves, identityref03.Strings, Proves, Same, and identitylaw03.short. -/
import Derived.Test.YtnbdlehkadiepaaDoorDigPath
import Derived.BigQuiet
import Derived.Deep.QuietTactic
namespace Go.Proofs.YtnbdlehkadiepaaDoor
open Go.RowKit

set_option maxHeartbeats 1600000 in
theorem same_any (l m : List ByteArray) (A B : Option Addr) (c d : Nat) (w : World) (hA : Strs w A l) (hB : Strs w B m) (hl : l.length ≤ 1000000) (hm : m.length ≤ 1000000) :
    Calls Tryd.prog 31 #[.slice A l.length c, .slice B m.length d] w fun e w' => e = .returned (.bool (decide (l = m))) ∧ Below w.heap.size w w' := by
  by_cases hlen : l.length = m.length
  · have hb : ((l.length : Int) != (m.length : Int)) = false := by rw [hlen]; simp
    have HL := Lib.hid hlen
    have hlm : l.length ≤ m.length := by omega
    clear hlen
    go_enter Tryd.func31, Tryd.ntmps31
    go_wp2
    go_loopw [5] (fun i wr => ∃ k : Nat, k ≤ l.length ∧ i = .int .i64 k ∧ l.take k = m.take k ∧ Below w.heap.size w wr) (fun i _ => l.length - (intOf i).toNat)
    case atStart => exact ⟨0, by omega, rfl, rfl, Below.refl _ _⟩
    case round =>
      obtain ⟨k, hk, rfl, htk, hbr⟩ := hrel
      have HT := Lib.hid htk
      clear htk
      by_cases hlt : k < l.length
      · obtain ⟨b, o, rfl, hc⟩ := (hA.below hbr) k hlt
        obtain ⟨b2, o2, rfl, hc2⟩ := (hB.below hbr) k (by omega)
        have i1 : (0 : Int) ≤ (k : Int) := by omega
        have i2 : (k : Int) < (l.length : Int) := by omega
        have i3 : (k : Int) < (m.length : Int) := by omega
        by_cases he : l[k] = m[k]
        · have HS : Hid (l.take (k + 1) = m.take (k + 1)) := by
            show _ = _
            rw [List.take_succ_eq_append_getElem hlt, List.take_succ_eq_append_getElem (by omega), HT.out, he]
          go_wp2
          go_quiet (fail)
          go_wp2_with fail
          go_roundw
          case rel => exact ⟨k + 1, by omega, by go_num, HS.out, below_drewN hbr _⟩
          case measure => simp [intOf]; omega
        · have hq := str_ne he
          have HS : Hid (decide (l = m) = false) := by
            show _ = _
            rw [decide_eq_false_iff_not]
            intro e
            subst e
            exact he rfl
          clear he
          go_wp2
          go_quiet (fail)
          go_wp2_with fail
          go_ret
          exact ⟨ret_bool HS.out.symm, below_drewN hbr _⟩
      · have HS : Hid (decide (l = m) = true) := by
          show _ = _
          rw [decide_eq_true_iff]
          have h1 := HT.out
          rw [List.take_of_length_le (by omega), List.take_of_length_le (by have := HL.out; omega)] at h1
          exact h1
        go_wp2
        go_ret
        exact ⟨ret_bool HS.out.symm, hbr⟩
  · have hb : ((l.length : Int) != (m.length : Int)) = true := by rw [bne_iff_ne]; omega
    have HS : Hid (decide (l = m) = false) := by
      show _ = _
      rw [decide_eq_false_iff_not]
      intro e
      exact hlen (by rw [e])
    clear hlen
    go_enter Tryd.func31, Tryd.ntmps31
    go_wp2
    go_ret
    exact ⟨ret_bool HS.out.symm, Below.refl _ _⟩

/-- What identitylaw03.short reports. -/
def shortB (l : List ByteArray) : Bool := decide (l.length ≤ 20 ∧ ∀ s ∈ l, s.size ≤ 300)
set_option maxHeartbeats 1600000 in
theorem short_any (l : List ByteArray) (A : Option Addr) (c : Nat) (w : World) (hA : Strs w A l) (hl : l.length ≤ 9223372036854775807) :
    Calls Tryd.prog 26 #[.slice A l.length c] w fun e w' => e = .returned (.bool (shortB l)) ∧ Below w.heap.size w w' := by
  go_enter Tryd.func26, Tryd.ntmps26
  go_wp2
  go_loopw [3] (fun i wr => ∃ k : Nat, k ≤ l.length ∧ k ≤ 20 ∧ i = .int .i64 k ∧ (∀ j, (h : j < l.length) → j < k → l[j].size ≤ 300) ∧ Below w.heap.size w wr) (fun i _ => 20 - (intOf i).toNat)
  case atStart => exact ⟨0, by omega, by omega, rfl, fun j _ h => absurd h (by omega), Below.refl _ _⟩
  case round =>
    obtain ⟨k, hk, hk20, rfl, hbad, hbr⟩ := hrel
    have HT := Lib.hid hbad
    clear hbad
    by_cases hlt : k < l.length
    · by_cases h20 : k < 20
      · obtain ⟨b, o, rfl, hc⟩ := (hA.below hbr) k hlt
        by_cases hsz : l[k].size ≤ 300
        · have HS : Hid (∀ j, (h : j < l.length) → j < k + 1 → l[j].size ≤ 300) := by
            intro j h hj
            by_cases e : j = k
            · subst e; exact hsz
            · exact HT.out j h (by omega)
          generalize l[k] = x at *
          go_wp2
          go_roundw
          case rel => exact ⟨k + 1, by omega, by omega, by go_num, HS.out, hbr⟩
          case measure => simp [intOf]; omega
        · have HS : Hid (shortB l = false) := by
            show _ = _
            rw [shortB, decide_eq_false_iff_not]
            intro e
            exact hsz (e.2 _ (List.getElem_mem hlt))
          generalize l[k] = x at *
          go_wp2
          go_ret
          exact ⟨ret_bool HS.out.symm, hbr⟩
      · have HS : Hid (shortB l = false) := by
          show _ = _
          rw [shortB, decide_eq_false_iff_not]
          intro e
          omega
        have HD : Hid (decide ((l.length : Int) ≤ 20) = shortB l) := by show _ = _; rw [HS.out, decide_eq_false_iff_not]; omega
        go_wp2
        go_ret
        exact ⟨ret_bool HD.out, hbr⟩
    · have HS : Hid (shortB l = true) := by
        show _ = _
        rw [shortB, decide_eq_true_iff]
        refine ⟨by omega, fun s hs => ?_⟩
        obtain ⟨j, hj, rfl⟩ := List.getElem_of_mem hs
        exact HT.out j hj (by omega)
      have HD : Hid (decide ((l.length : Int) ≤ 20) = shortB l) := by show _ = _; rw [HS.out, decide_eq_true_iff]; omega
      go_wp2
      go_ret
      exact ⟨ret_bool HD.out, hbr⟩
end Go.Proofs.YtnbdlehkadiepaaDoor
