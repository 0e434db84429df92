/- identityref02.decimal. -/
import Derived.Test.YtnkblimmlkidcaaDoorKit
import Derived.Test.YtnkblimmlkidcaaDoorCodR64
namespace Go.Proofs.YtnkblimmlkidcaaDoor
open Go.RowKit

def digC (c : UInt8) : Bool := decide (48 ≤ c.toNat ∧ c.toNat ≤ 57)
/-- A decimal form without sign. -/
def decL (l : List UInt8) (zero : Bool) : Bool := match l with
  | [] => false
  | c :: r => !(decide (c.toNat = 48) && (decide (r ≠ []) || !zero)) && (c :: r).all digC
theorem dig_all {s : ByteArray} {k : Nat} (h : k < s.size) (ha : (s.data.toList.take k).all digC = true) (hc : digC s[k] = true) : (s.data.toList.take (k + 1)).all digC = true := by
  have hl : k < s.data.toList.length := by simpa using h
  rw [List.take_succ_eq_append_getElem hl, List.all_append, ha, Bool.true_and, List.all_cons, List.all_nil, Bool.and_true]
  exact hc
theorem dig_bad {s : ByteArray} {k : Nat} (h : k < s.size) (hc : digC s[k] = false) : s.data.toList.all digC = false := by
  rw [List.all_eq_false]
  exact ⟨s[k], by rw [← Array.mem_def]; exact Array.getElem_mem _, by simp [hc]⟩
theorem decL_bad {l : List UInt8} {z : Bool} (h : l.all digC = false) : decL l z = false := by
  cases l with
  | nil => rfl
  | cons c r => rw [decL, h, Bool.and_false]
theorem decL_lead {s : ByteArray} {z : Bool} (h0 : 0 < s.size) (h48 : s[0].toNat = 48) (hz : 1 < s.size ∨ z = false) : decL s.data.toList z = false := by
  have hd := drop_cons s 0 h0
  rw [List.drop_zero] at hd
  rw [hd, decL]
  have e : (decide (s[0].toNat = 48) && (decide (s.data.toList.drop (0 + 1) ≠ []) || !z)) = true := by
    rw [decide_eq_true h48, Bool.true_and, Bool.or_eq_true]
    rcases hz with h | h
    · left
      rw [decide_eq_true_iff]
      intro e
      have := congrArg List.length e
      simp at this; omega
    · right; rw [h]; rfl
  rw [e]; rfl
theorem decL_good {s : ByteArray} {z : Bool} (h0 : 0 < s.size) (hl : s[0].toNat ≠ 48 ∨ (¬ 1 < s.size ∧ z = true)) (ha : s.data.toList.all digC = true) : decL s.data.toList z = true := by
  have hd := drop_cons s 0 h0
  rw [List.drop_zero] at hd
  rw [hd] at ha
  rw [hd, decL, ha, Bool.and_true, Bool.not_eq_true']
  rcases hl with h | ⟨h1, h2⟩
  · rw [decide_eq_false h, Bool.false_and]
  · have : s.data.toList.drop (0 + 1) = [] := List.drop_of_length_le (by simp; omega)
    rw [this, h2]; simp
set_option maxHeartbeats 1000000 in
theorem decimal_form (s : ByteArray) (z : Bool) (w : World) (hs : s.size ≤ 9223372036854775807) :
    Calls Tryd.prog 51 #[.string s, .bool z] w fun e w' => e = .returned (.bool (decL s.data.toList z)) ∧ w = w' := by
  go_enter Tryd.func51, Tryd.ntmps51
  by_cases h0 : s.size = 0
  · have HD : Hid (decL s.data.toList z = false) := by
      show _ = _
      have : s.data.toList = [] := List.eq_nil_of_length_eq_zero (by simpa using h0)
      rw [this]; rfl
    go_wp2_with fail
    go_ret
    exact ⟨ret_bool HD.out.symm, rfl⟩
  · have hpos : 0 < s.size := by omega
    have hb0 : ((s.size : Int) == 0) = false := by rw [beq_eq_false_iff_ne]; omega
    obtain ⟨c0, hc0⟩ : ∃ c0, s[0].toNat = c0 := ⟨_, rfl⟩
    have HC := Lib.hid hc0
    have hcs : (c0 = 48 ∧ (1 < s.size ∨ (¬ 1 < s.size ∧ z = false))) ∨ (c0 ≠ 48 ∨ (c0 = 48 ∧ ¬ 1 < s.size ∧ z = true)) := by
      by_cases h1 : c0 = 48
      · by_cases h2 : 1 < s.size
        · exact .inl ⟨h1, .inl h2⟩
        · cases z with
          | false => exact .inl ⟨h1, .inr ⟨h2, rfl⟩⟩
          | true => exact .inr (.inr ⟨h1, h2, rfl⟩)
      · exact .inr (.inl h1)
    clear h0
    rcases hcs with ⟨rfl, hz⟩ | hg
    · have HD : Hid (decL s.data.toList z = false) := Lib.hid (decL_lead hpos HC.out (hz.imp_right (·.2)))
      rcases hz with h | ⟨h, rfl⟩
      all_goals
        go_wp2_with fail
        go_ret
        exact ⟨ret_bool HD.out.symm, rfl⟩
    · have HG : Hid (s.data.toList.all digC = true → decL s.data.toList z = true) := Lib.hid (fun ha => decL_good hpos (by rw [HC.out]; exact hg.imp_right (·.2)) ha)
      have HBad : Hid (s.data.toList.all digC = false → decL s.data.toList z = false) := Lib.hid (fun ha => decL_bad ha)
      have hg2 : ((c0 : Int) == 48) = false ∨ (c0 = 48 ∧ ¬ 1 < s.size ∧ z = true) := hg.imp_left (fun h => by rw [beq_eq_false_iff_ne]; omega)
      clear hg
      rcases hg2 with h | ⟨rfl, h, rfl⟩
      all_goals
        go_wp2_with fail
        go_loop [5] (fun i => ∃ k : Nat, k ≤ s.size ∧ i = .int .i64 k ∧ Hid ((s.data.toList.take k).all digC = true)) (fun i => s.size - (intOf i).toNat)
        case atStart => exact ⟨0, Nat.zero_le _, rfl, Lib.hid (by simp)⟩
        case round =>
          clear hc0
          obtain ⟨k, hk, rfl, HA⟩ := hrel
          by_cases hlt : k < s.size
          · obtain ⟨c, hc⟩ : ∃ c, s[k].toNat = c := ⟨_, rfl⟩
            have HK := Lib.hid hc
            have hcs : c < 48 ∨ 57 < c ∨ (48 ≤ c ∧ c ≤ 57) := by omega
            rcases hcs with h1 | h1 | ⟨h1, h2⟩
            · have HD := Lib.hid (HBad.out (dig_bad hlt (by rw [digC, HK.out]; simp; omega)))
              go_wp2_with fail
              go_ret
              exact ⟨ret_bool HD.out.symm, rfl⟩
            · have HD := Lib.hid (HBad.out (dig_bad hlt (by rw [digC, HK.out]; simp; omega)))
              go_wp2_with fail
              go_ret
              exact ⟨ret_bool HD.out.symm, rfl⟩
            · have HD : Hid ((s.data.toList.take (k + 1)).all digC = true) := Lib.hid (dig_all hlt HA.out (by rw [digC, HK.out]; simp; omega))
              go_wp2_with fail
              go_round
              case rel => exact ⟨k + 1, hlt, by go_num, HD⟩
              case measure => simp [intOf]; omega
          · have HD := Lib.hid (HG.out (by have h := HA.out; rwa [List.take_of_length_le (by simp; omega)] at h))
            go_wp2_with fail
            go_ret
            exact ⟨ret_bool HD.out.symm, rfl⟩
end Go.Proofs.YtnkblimmlkidcaaDoor
