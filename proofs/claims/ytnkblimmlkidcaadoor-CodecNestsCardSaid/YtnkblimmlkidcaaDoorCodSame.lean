/- identityref02.Same and .Great. -/
import Derived.Test.YtnkblimmlkidcaaDoorStrs
import Derived.BigQuiet
import Derived.Deep.QuietTactic
namespace Go.Proofs.YtnkblimmlkidcaaDoor
open Go.RowKit

set_option maxHeartbeats 1600000 in
theorem same2_any (l m : List ByteArray) (A B : Option Addr) (c d : Nat) (w : World) (hA : Strs w A l) (hB : Strs w B m) (hl : l.length ≤ 1000000) (hm : m.length ≤ 1000000) :
    Calls Tryd.prog 21 #[.slice A l.length c, .slice B m.length d] w fun e w' => e = .returned (.bool (decide (l = m))) ∧ Below w.heap.size w w' := by
  by_cases hlen : l.length = m.length
  · have hb : ((l.length : Int) != (m.length : Int)) = false := by rw [hlen]; simp
    have HL := Lib.hid hlen
    have hlm : l.length ≤ m.length := by omega
    clear hlen
    go_enter Tryd.func21, Tryd.ntmps21
    go_wp2
    go_loopw [5] (fun i wr => ∃ k : Nat, k ≤ l.length ∧ i = .int .i64 k ∧ l.take k = m.take k ∧ Below w.heap.size w wr) (fun i _ => l.length - (intOf i).toNat)
    case atStart => exact ⟨0, by omega, rfl, rfl, Below.refl _ _⟩
    case round =>
      obtain ⟨k, hk, rfl, htk, hbr⟩ := hrel
      have HT := Lib.hid htk
      clear htk
      by_cases hlt : k < l.length
      · obtain ⟨b, o, rfl, hc⟩ := (hA.below hbr) k hlt
        obtain ⟨b2, o2, rfl, hc2⟩ := (hB.below hbr) k (by omega)
        have i1 : (0 : Int) ≤ (k : Int) := by omega
        have i2 : (k : Int) < (l.length : Int) := by omega
        have i3 : (k : Int) < (m.length : Int) := by omega
        by_cases he : l[k] = m[k]
        · have HS : Hid (l.take (k + 1) = m.take (k + 1)) := by
            show _ = _
            rw [List.take_succ_eq_append_getElem hlt, List.take_succ_eq_append_getElem (by omega), HT.out, he]
          go_wp2
          go_quiet (fail)
          go_wp2_with fail
          go_roundw
          case rel => exact ⟨k + 1, by omega, by go_num, HS.out, below_drewN hbr _⟩
          case measure => simp [intOf]; omega
        · have hq := str_ne he
          have HS : Hid (decide (l = m) = false) := by
            show _ = _
            rw [decide_eq_false_iff_not]
            intro e
            subst e
            exact he rfl
          clear he
          go_wp2
          go_quiet (fail)
          go_wp2_with fail
          go_ret
          exact ⟨ret_bool HS.out.symm, below_drewN hbr _⟩
      · have HS : Hid (decide (l = m) = true) := by
          show _ = _
          rw [decide_eq_true_iff]
          have h1 := HT.out
          rw [List.take_of_length_le (by omega), List.take_of_length_le (by have := HL.out; omega)] at h1
          exact h1
        go_wp2
        go_ret
        exact ⟨ret_bool HS.out.symm, hbr⟩
  · have hb : ((l.length : Int) != (m.length : Int)) = true := by rw [bne_iff_ne]; omega
    have HS : Hid (decide (l = m) = false) := by
      show _ = _
      rw [decide_eq_false_iff_not]
      intro e
      exact hlen (by rw [e])
    clear hlen
    go_enter Tryd.func21, Tryd.ntmps21
    go_wp2
    go_ret
    exact ⟨ret_bool HS.out.symm, Below.refl _ _⟩

/-- What identityref02.Great reports. -/
def greatB (l : List ByteArray) (m n : Nat) : Bool := decide (m < l.length) || l.any fun s => decide (n < s.size)
set_option maxHeartbeats 1000000 in
theorem great_any (l : List ByteArray) (m n : Nat) (A : Option Addr) (c : Nat) (w : World) (hS : Strs w A l) (hl : l.length ≤ 9223372036854775807) :
    Calls Tryd.prog 17 #[.slice A l.length c, .int .i64 m, .int .i64 n] w fun e w' => e = .returned (.bool (greatB l m n)) ∧ w = w' := by
  go_enter Tryd.func17, Tryd.ntmps17
  by_cases h0 : m < l.length
  · have HG : Hid (greatB l m n = true) := by show _ = _; simp [greatB, h0]
    go_wp2_with fail
    go_ret
    exact ⟨ret_bool HG.out.symm, rfl⟩
  · have HG : Hid (greatB l m n = l.any fun s => decide (n < s.size)) := by show _ = _; simp [greatB, h0]
    go_wp2_with fail
    go_loop [7] (fun j => ∃ k : Nat, k ≤ l.length ∧ j = .int .i64 k ∧ Hid (((l.take k).any fun s => decide (n < s.size)) = false)) (fun i => l.length - (intOf i).toNat)
    case atStart => exact ⟨0, Nat.zero_le _, rfl, Lib.hid (by simp)⟩
    case round =>
      obtain ⟨k, hk, rfl, HA⟩ := hrel
      by_cases hlt : k < l.length
      · obtain ⟨b, o, rfl, hc⟩ := hS k hlt
        have HT : Hid (l.take (k + 1) = l.take k ++ [l[k]]) := by show _ = _; rw [List.take_succ_eq_append_getElem hlt]
        have HM : Hid (l[k] ∈ l) := List.getElem_mem hlt
        generalize l[k] = x at *
        by_cases hx : n < x.size
        · have HL : Hid (greatB l m n = true) := by
            show _ = _
            rw [HG.out, List.any_eq_true]
            exact ⟨x, HM.out, by simpa using hx⟩
          go_wp2_with fail
          go_ret
          exact ⟨ret_bool HL.out.symm, rfl⟩
        · have HL : Hid (((l.take (k + 1)).any fun s => decide (n < s.size)) = false) := by
            show _ = _
            rw [HT.out, List.any_append, HA.out]
            simpa using hx
          go_wp2_with fail
          go_round
          case rel => exact ⟨k + 1, by omega, by go_num, HL⟩
          case measure => simp [intOf]; omega
      · have HL : Hid (greatB l m n = false) := by
          have h := HA.out
          show _ = _
          rw [List.take_of_length_le (by omega)] at h
          rw [HG.out, h]
        go_wp2_with fail
        go_ret
        exact ⟨ret_bool HL.out.symm, rfl⟩
theorem great_small {l : List ByteArray} {m n : Nat} (h : greatB l m n = false) : l.length ≤ m ∧ ∀ s ∈ l, s.size ≤ n := by
  rw [greatB, Bool.or_eq_false_iff, decide_eq_false_iff_not, List.any_eq_false] at h
  exact ⟨by omega, fun s hs => by have := h.2 s hs; simpa using this⟩
end Go.Proofs.YtnkblimmlkidcaaDoor
