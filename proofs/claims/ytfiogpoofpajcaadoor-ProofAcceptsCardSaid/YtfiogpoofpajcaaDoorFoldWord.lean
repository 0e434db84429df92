/- fold.Word: a word is 1 to 64 bytes, each a letter, a digit, or one of - _ . : -/
import Derived.Test.YtfiogpoofpajcaaDoorKit
import Derived.Test.YtfiogpoofpajcaaDoorDigPlain

namespace Go.Proofs.YtfiogpoofpajcaaDoor
open Go.RowKit

/-- A letter or a digit. -/
def alnumC (c : UInt8) : Bool := decide ((97 ≤ c.toNat ∧ c.toNat ≤ 122) ∨ (65 ≤ c.toNat ∧ c.toNat ≤ 90) ∨ (48 ≤ c.toNat ∧ c.toNat ≤ 57))
/-- A byte of a word. -/
def wordC (c : UInt8) : Bool := alnumC c || decide (c.toNat = 45 ∨ c.toNat = 95 ∨ c.toNat = 46 ∨ c.toNat = 58)
def wordS (s : ByteArray) : Bool := decide (1 ≤ s.size ∧ s.size ≤ 64) && s.data.toList.all wordC
theorem alnumC_mk {c : UInt8} {b : Bool} (h : b = true ↔ ((97 ≤ c.toNat ∧ c.toNat ≤ 122) ∨ (65 ≤ c.toNat ∧ c.toNat ≤ 90) ∨ (48 ≤ c.toNat ∧ c.toNat ≤ 57))) : b = alnumC c := by
  rw [Bool.eq_iff_iff, h, alnumC, decide_eq_true_iff]
theorem wordC_mk {c : UInt8} {b : Bool} (h : b = true ↔ (((97 ≤ c.toNat ∧ c.toNat ≤ 122) ∨ (65 ≤ c.toNat ∧ c.toNat ≤ 90) ∨ (48 ≤ c.toNat ∧ c.toNat ≤ 57)) ∨ (c.toNat = 45 ∨ c.toNat = 95 ∨ c.toNat = 46 ∨ c.toNat = 58))) : b = wordC c := by
  rw [Bool.eq_iff_iff, h, wordC, alnumC, Bool.or_eq_true, decide_eq_true_iff, decide_eq_true_iff]

set_option maxHeartbeats 1000000 in
theorem wordByte_any (c : UInt8) (w : World) :
    Calls Tryd.prog 36 #[.int .u8 (c.toNat : Int)] w fun e w' => e = .returned (.bool (wordC c)) ∧ w = w' := by
  have hcs : (97 ≤ c.toNat ∧ c.toNat ≤ 122) ∨ (65 ≤ c.toNat ∧ c.toNat ≤ 90) ∨ (48 ≤ c.toNat ∧ c.toNat ≤ 57) ∨ c.toNat = 45 ∨ c.toNat = 95 ∨ c.toNat = 46 ∨ c.toNat = 58 ∨ (c.toNat < 45) ∨ c.toNat = 47 ∨ (58 < c.toNat ∧ c.toNat < 65) ∨ (90 < c.toNat ∧ c.toNat < 95) ∨ c.toNat = 96 ∨ 122 < c.toNat := by omega
  go_enter Tryd.func36, Tryd.ntmps36
  generalize hn : c.toNat = n at *
  have HN := Lib.hid hn
  clear hn
  rcases hcs with ⟨h1, h2⟩ | ⟨h1, h2⟩ | ⟨h1, h2⟩ | rfl | rfl | rfl | rfl | h | rfl | ⟨h1, h2⟩ | ⟨h1, h2⟩ | rfl | h
  all_goals
    go_wp2
    go_ret
    exact ⟨ret_bool (wordC_mk (by rw [HN.out]; simp; try omega)), rfl⟩

theorem take_all {s : ByteArray} {k : Nat} {p : UInt8 → Bool} (h : k < s.size) (ha : (s.data.toList.take k).all p = true) (hc : p s[k] = true) : (s.data.toList.take (k + 1)).all p = true := by
  rw [take_snoc s k h, List.all_append, ha]; simp [hc]
theorem all_bad {s : ByteArray} {k : Nat} {p : UInt8 → Bool} (h : k < s.size) (hc : p s[k] = false) : s.data.toList.all p = false := by
  rw [List.all_eq_false]
  exact ⟨s[k], by rw [← Array.mem_def]; exact Array.getElem_mem _, by simp [hc]⟩
theorem all_done {s : ByteArray} {k : Nat} {p : UInt8 → Bool} (h : ¬ k < s.size) (ha : (s.data.toList.take k).all p = true) : s.data.toList.all p = true := by
  rwa [List.take_of_length_le (by simp; have : s.size = s.data.size := rfl; omega)] at ha
set_option maxHeartbeats 1000000 in
theorem made_word (s : ByteArray) (w : World) (hs : s.size ≤ 9223372036854775807) :
    Calls Tryd.prog 35 #[.string s, .func (.func 36) #[] #[]] w fun e w' => e = .returned (.bool (wordS s)) ∧ w = w' := by
  go_enter Tryd.func35, Tryd.ntmps35
  go_wp2_with fail
  go_loop [5, 8] (fun _ j => ∃ k : Nat, k ≤ s.size ∧ j = .int .i64 k ∧ Hid ((s.data.toList.take k).all wordC = true)) (fun _ i => s.size - (intOf i).toNat)
  case atStart => exact ⟨0, Nat.zero_le _, rfl, Lib.hid (by simp)⟩
  case round =>
    obtain ⟨k, hk, rfl, HA⟩ := hrel
    by_cases hlt : k < s.size
    · go_wp2_with fail
      cases hc : wordC s[k] with
      | false =>
        have HC := Lib.hid hc
        refine (wordByte_any s[k] w).mono ?_
        rintro e w1 ⟨rfl, rfl⟩
        rw [hc]
        clear hc
        go_wp2_with fail
        go_ret
        exact ⟨ret_bool (by rw [wordS, all_bad hlt HC.out, Bool.and_false]), rfl⟩
      | true =>
        have HC := Lib.hid hc
        refine (wordByte_any s[k] w).mono ?_
        rintro e w1 ⟨rfl, rfl⟩
        rw [hc]
        clear hc
        go_wp2_with fail
        go_round
        case rel => exact ⟨k + 1, by omega, by go_num, Lib.hid (take_all hlt HA.out HC.out)⟩
        case measure => simp [intOf]; omega
    · have HD := Lib.hid (all_done hlt HA.out)
      by_cases h0 : s.size = 0
      · have he : s.toList = [] := by rw [Lib.toList_data]; exact List.eq_nil_of_length_eq_zero (by simpa using h0)
        have hb : (s.toList.isEmpty) = true := by rw [he]; rfl
        have H0 := Lib.hid h0
        clear h0 he
        go_wp2_with fail
        go_ret
        exact ⟨ret_bool (by rw [wordS, H0.out]; simp), rfl⟩
      · have hb : (s.toList.isEmpty) = false := by
          rw [Lib.toList_data]
          cases hl : s.data.toList with
          | nil => exact absurd (by have := congrArg List.length hl; simpa using this) h0
          | cons a l => rfl
        have h1 : 1 ≤ s.size := by omega
        clear h0
        by_cases h64 : s.size ≤ 64
        · go_wp2_with fail
          go_ret
          exact ⟨ret_bool (by rw [wordS, HD.out]; simp [h1, h64]; omega), rfl⟩
        · go_wp2_with fail
          go_ret
          exact ⟨ret_bool (by rw [wordS, HD.out]; simp [h64]; omega), rfl⟩
/-- fold.Word. -/
theorem word_any (s : ByteArray) (w : World) (hs : s.size ≤ 9223372036854775807) :
    Calls Tryd.prog 19 #[.string s] w fun e w' => e = .returned (.bool (wordS s)) ∧ w = w' := by
  go_enter Tryd.func19, Tryd.ntmps19
  go_wp2_with fail
  refine (made_word s w hs).mono ?_
  rintro e w1 ⟨rfl, rfl⟩
  go_wp2_with fail
  go_ret
  exact ⟨rfl, rfl⟩
end Go.Proofs.YtfiogpoofpajcaaDoor
