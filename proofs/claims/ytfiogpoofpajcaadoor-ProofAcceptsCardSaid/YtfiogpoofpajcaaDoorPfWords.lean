/- proof.Valid and its reference; plain words: proof.plain and its reference. -/
import Derived.Test.YtfiogpoofpajcaaDoorFoldWord
import Derived.Test.YtfiogpoofpajcaaDoorShelf
import Derived.Lib.Bytealg
namespace Go.Proofs.YtfiogpoofpajcaaDoor
open Go.RowKit

def validC (c : UInt8) : Bool := alnumC c || decide (c.toNat = 45 ∨ c.toNat = 46 ∨ c.toNat = 95 ∨ c.toNat = 126)
def validS (s : ByteArray) : Bool := decide (43 ≤ s.size ∧ s.size ≤ 128) && s.data.toList.all validC
def plainC (c : UInt8) : Bool := alnumC c || decide (c.toNat = 45 ∨ c.toNat = 95 ∨ c.toNat = 58)
def plainS (s : ByteArray) : Bool := decide (1 ≤ s.size ∧ s.size ≤ 64) && s.data.toList.all plainC

set_option maxHeartbeats 1000000 in
theorem alnum_any (c : UInt8) (w : World) :
    Calls Tryd.prog 31 #[.int .u8 (c.toNat : Int)] w fun e w' => e = .returned (.bool (alnumC c)) ∧ w = w' := by
  have hcs : (97 ≤ c.toNat ∧ c.toNat ≤ 122) ∨ (65 ≤ c.toNat ∧ c.toNat ≤ 90) ∨ (48 ≤ c.toNat ∧ c.toNat ≤ 57) ∨ c.toNat < 48 ∨ (57 < c.toNat ∧ c.toNat < 65) ∨ (90 < c.toNat ∧ c.toNat < 97) ∨ 122 < c.toNat := by omega
  go_enter Tryd.func31, Tryd.ntmps31
  generalize hn : c.toNat = n at *
  have HN := Lib.hid hn
  clear hn
  rcases hcs with ⟨h1, h2⟩ | ⟨h1, h2⟩ | ⟨h1, h2⟩ | h | ⟨h1, h2⟩ | ⟨h1, h2⟩ | h
  all_goals
    go_wp2
    go_ret
    exact ⟨ret_bool (alnumC_mk (by rw [HN.out]; simp; try omega)), rfl⟩
set_option maxHeartbeats 1000000 in
theorem letter_any (c : UInt8) (w : World) :
    Calls Tryd.prog 33 #[.int .u8 (c.toNat : Int)] w fun e w' => e = .returned (.bool (alnumC c)) ∧ w = w' := by
  have hcs : (97 ≤ c.toNat ∧ c.toNat ≤ 122) ∨ (65 ≤ c.toNat ∧ c.toNat ≤ 90) ∨ (48 ≤ c.toNat ∧ c.toNat ≤ 57) ∨ c.toNat < 48 ∨ (57 < c.toNat ∧ c.toNat < 65) ∨ (90 < c.toNat ∧ c.toNat < 97) ∨ 122 < c.toNat := by omega
  go_enter Tryd.func33, Tryd.ntmps33
  generalize hn : c.toNat = n at *
  have HN := Lib.hid hn
  clear hn
  rcases hcs with ⟨h1, h2⟩ | ⟨h1, h2⟩ | ⟨h1, h2⟩ | h | ⟨h1, h2⟩ | ⟨h1, h2⟩ | h
  all_goals
    go_wp2
    go_ret
    exact ⟨ret_bool (alnumC_mk (by rw [HN.out]; simp; try omega)), rfl⟩

/-- strings.IndexByte in "-._~". -/
def markTab : ByteArray := ⟨#[45, 46, 95, 126]⟩
theorem mark_index (c : UInt8) : Lib.indexByte markTab.data.toList c = if c.toNat = 45 then 0 else if c.toNat = 46 then 1 else if c.toNat = 95 then 2 else if c.toNat = 126 then 3 else -1 := by
  have : ∀ n : Fin 256, Lib.indexByte markTab.data.toList (UInt8.ofNat n.1) = if (UInt8.ofNat n.1).toNat = 45 then 0 else if (UInt8.ofNat n.1).toNat = 46 then 1 else if (UInt8.ofNat n.1).toNat = 95 then 2 else if (UInt8.ofNat n.1).toNat = 126 then 3 else -1 := by decide +kernel
  have h := this ⟨c.toNat, c.toNat_lt⟩
  simpa using h
theorem mark_no (c : UInt8) (w : World) (h : ¬ (c.toNat = 45 ∨ c.toNat = 46 ∨ c.toNat = 95 ∨ c.toNat = 126)) :
    Calls Tryd.prog 32 #[.string markTab, .int .u8 (c.toNat : Int)] w fun e w' => e = .returned (.int .i64 (-1)) ∧ w = w' := by
  refine (Tryd.strings_IndexByte markTab (c.toNat : Int) w).mono ?_
  rintro e w' ⟨rfl, rfl⟩
  refine ⟨ret_int ?_, rfl⟩
  have := mark_index c
  rw [if_neg (by omega), if_neg (by omega), if_neg (by omega), if_neg (by omega)] at this
  simpa using this
theorem mark_yes (c : UInt8) (w : World) (h : c.toNat = 45 ∨ c.toNat = 46 ∨ c.toNat = 95 ∨ c.toNat = 126) :
    Calls Tryd.prog 32 #[.string markTab, .int .u8 (c.toNat : Int)] w fun e w' => (∃ k : Int, 0 ≤ k ∧ e = .returned (.int .i64 k)) ∧ w = w' := by
  refine (Tryd.strings_IndexByte markTab (c.toNat : Int) w).mono ?_
  rintro e w' ⟨rfl, rfl⟩
  refine ⟨⟨_, ?_, rfl⟩, rfl⟩
  have := mark_index c
  simp only [Int.toNat_natCast, Nat.toUInt8_eq, UInt8.ofNat_toNat]
  rw [this]
  rcases h with h | h | h | h <;> simp [h]

theorem validC_of {c : UInt8} {a : Bool} (_ha : alnumC c = a) (h : decide (c.toNat = 45 ∨ c.toNat = 46 ∨ c.toNat = 95 ∨ c.toNat = 126) = true) : validC c = true := by rw [validC, h, Bool.or_true]
theorem validC_al {c : UInt8} (ha : alnumC c = true) : validC c = true := by rw [validC, ha]; rfl
theorem validC_no {c : UInt8} (ha : alnumC c = false) (h : ¬ (c.toNat = 45 ∨ c.toNat = 46 ∨ c.toNat = 95 ∨ c.toNat = 126)) : validC c = false := by rw [validC, ha]; simpa using h

set_option maxHeartbeats 2000000 in
theorem valid_any (s : ByteArray) (w : World) (hs : s.size ≤ 9223372036854775807) :
    Calls Tryd.prog 13 #[.string s] w fun e w' => e = .returned (.bool (validS s)) ∧ w = w' := by
  have hcs : s.size < 43 ∨ 128 < s.size ∨ (43 ≤ s.size ∧ s.size ≤ 128) := by omega
  rcases hcs with h | h | ⟨h1, h2⟩
  · go_enter Tryd.func13, Tryd.ntmps13
    go_wp2_with fail
    go_ret
    exact ⟨ret_bool (by rw [validS, decide_eq_false (by omega)]; rfl), rfl⟩
  · go_enter Tryd.func13, Tryd.ntmps13
    go_wp2_with fail
    go_ret
    exact ⟨ret_bool (by rw [validS, decide_eq_false (by omega)]; rfl), rfl⟩
  · have HL : Hid (validS s = s.data.toList.all validC) := by show _ = _; rw [validS, decide_eq_true (by omega)]; rfl
    go_enter Tryd.func13, Tryd.ntmps13
    go_wp2_with fail
    go_loop [3, 14] (fun _ j => ∃ k : Nat, k ≤ s.size ∧ j = .int .i64 k ∧ Hid ((s.data.toList.take k).all validC = true)) (fun _ i => s.size - (intOf i).toNat)
    case atStart => exact ⟨0, Nat.zero_le _, rfl, Lib.hid (by simp)⟩
    case round =>
      obtain ⟨k, hk, rfl, HA⟩ := hrel
      by_cases hlt : k < s.size
      · go_wp2_with fail
        cases ha : alnumC s[k] with
        | true =>
          have HC := Lib.hid (validC_al ha)
          refine (alnum_any s[k] w).mono ?_
          rintro e w1 ⟨rfl, rfl⟩
          rw [ha]
          clear ha
          go_wp2_with fail
          go_round
          case rel => exact ⟨k + 1, by omega, by go_num, Lib.hid (take_all hlt HA.out HC.out)⟩
          case measure => simp [intOf]; omega
        | false =>
          by_cases hm : s[k].toNat = 45 ∨ s[k].toNat = 46 ∨ s[k].toNat = 95 ∨ s[k].toNat = 126
          · have HC := Lib.hid (validC_of ha (decide_eq_true hm))
            have HM := Lib.hid hm
            refine (alnum_any s[k] w).mono ?_
            rintro e w1 ⟨rfl, rfl⟩
            rw [ha]
            clear ha hm
            go_wp2_with fail
            refine (mark_yes s[k] w HM.out).mono ?_
            rintro e w1 ⟨⟨q, hq, rfl⟩, rfl⟩
            go_wp2_with fail
            go_round
            case rel => exact ⟨k + 1, by omega, by go_num, Lib.hid (take_all hlt HA.out HC.out)⟩
            case measure => simp [intOf]; omega
          · have HC := Lib.hid (validC_no ha hm)
            have HM := Lib.hid hm
            refine (alnum_any s[k] w).mono ?_
            rintro e w1 ⟨rfl, rfl⟩
            rw [ha]
            clear ha hm
            go_wp2_with fail
            refine (mark_no s[k] w HM.out).mono ?_
            rintro e w1 ⟨rfl, rfl⟩
            go_wp2_with fail
            go_ret
            exact ⟨ret_bool (by rw [HL.out, all_bad hlt HC.out]), rfl⟩
      · have HD := Lib.hid (all_done hlt HA.out)
        go_wp2_with fail
        go_ret
        exact ⟨ret_bool (by rw [HL.out, HD.out]), rfl⟩

set_option maxHeartbeats 2000000 in
theorem rvalid_any (s : ByteArray) (w : World) (hs : s.size ≤ 9223372036854775807) :
    Calls Tryd.prog 14 #[.string s] w fun e w' => e = .returned (.bool (validS s)) ∧ w = w' := by
  go_enter Tryd.func14, Tryd.ntmps14
  go_wp2_with fail
  go_loop [3] (fun j => ∃ k : Nat, k ≤ s.size ∧ j = .int .i64 k ∧ Hid ((s.data.toList.take k).all validC = true)) (fun i => s.size - (intOf i).toNat)
  case atStart => exact ⟨0, Nat.zero_le _, rfl, Lib.hid (by simp)⟩
  case round =>
    obtain ⟨k, hk, rfl, HA⟩ := hrel
    by_cases hlt : k < s.size
    · go_wp2_with fail
      cases ha : alnumC s[k] with
      | true =>
        have HC := Lib.hid (validC_al ha)
        refine (letter_any s[k] w).mono ?_
        rintro e w1 ⟨rfl, rfl⟩
        rw [ha]
        clear ha
        go_wp2_with fail
        go_round
        case rel => exact ⟨k + 1, by omega, by go_num, Lib.hid (take_all hlt HA.out HC.out)⟩
        case measure => simp [intOf]; omega
      | false =>
        refine (letter_any s[k] w).mono ?_
        rintro e w1 ⟨rfl, rfl⟩
        rw [ha]
        have HAL := Lib.hid ha
        clear ha
        by_cases e1 : s[k].toNat = 45
        · have HC := Lib.hid (validC_of HAL.out (decide_eq_true (.inl e1)))
          have b1 : ((s[k].toNat : Int) != 45) = false := by rw [e1]; rfl
          clear e1
          go_wp2_with fail
          go_round
          case rel => exact ⟨k + 1, by omega, by go_num, Lib.hid (take_all hlt HA.out HC.out)⟩
          case measure => simp [intOf]; omega
        · have b1 : ((s[k].toNat : Int) != 45) = true := by rw [bne_iff_ne]; omega
          by_cases e2 : s[k].toNat = 46
          · have HC := Lib.hid (validC_of HAL.out (decide_eq_true (.inr (.inl e2))))
            have b2 : ((s[k].toNat : Int) != 46) = false := by rw [e2]; rfl
            clear e1 e2
            go_wp2_with fail
            go_round
            case rel => exact ⟨k + 1, by omega, by go_num, Lib.hid (take_all hlt HA.out HC.out)⟩
            case measure => simp [intOf]; omega
          · have b2 : ((s[k].toNat : Int) != 46) = true := by rw [bne_iff_ne]; omega
            by_cases e3 : s[k].toNat = 95
            · have HC := Lib.hid (validC_of HAL.out (decide_eq_true (.inr (.inr (.inl e3)))))
              have b3 : ((s[k].toNat : Int) != 95) = false := by rw [e3]; rfl
              clear e1 e2 e3
              go_wp2_with fail
              go_round
              case rel => exact ⟨k + 1, by omega, by go_num, Lib.hid (take_all hlt HA.out HC.out)⟩
              case measure => simp [intOf]; omega
            · have b3 : ((s[k].toNat : Int) != 95) = true := by rw [bne_iff_ne]; omega
              by_cases e4 : s[k].toNat = 126
              · have HC := Lib.hid (validC_of HAL.out (decide_eq_true (.inr (.inr (.inr e4)))))
                have b4 : ((s[k].toNat : Int) != 126) = false := by rw [e4]; rfl
                clear e1 e2 e3 e4
                go_wp2_with fail
                go_round
                case rel => exact ⟨k + 1, by omega, by go_num, Lib.hid (take_all hlt HA.out HC.out)⟩
                case measure => simp [intOf]; omega
              · have b4 : ((s[k].toNat : Int) != 126) = true := by rw [bne_iff_ne]; omega
                have HC := Lib.hid (validC_no HAL.out (by omega))
                clear e1 e2 e3 e4
                go_wp2_with fail
                go_ret
                exact ⟨ret_bool (by rw [validS, all_bad hlt HC.out, Bool.and_false]), rfl⟩
    · have HD := Lib.hid (all_done hlt HA.out)
      have hcs : s.size < 43 ∨ 128 < s.size ∨ (43 ≤ s.size ∧ s.size ≤ 128) := by omega
      rcases hcs with h | h | ⟨h1, h2⟩
      all_goals
        go_wp2_with fail
        go_ret
        exact ⟨ret_bool (by rw [validS, HD.out, Bool.and_true, Bool.eq_iff_iff]; simp; try omega), rfl⟩

theorem plainC_of {c : UInt8} {a : Bool} (_ha : alnumC c = a) (h : decide (c.toNat = 45 ∨ c.toNat = 95 ∨ c.toNat = 58) = true) : plainC c = true := by rw [plainC, h, Bool.or_true]
theorem plainC_al {c : UInt8} (ha : alnumC c = true) : plainC c = true := by rw [plainC, ha]; rfl
theorem plainC_no {c : UInt8} (ha : alnumC c = false) (h : ¬ (c.toNat = 45 ∨ c.toNat = 95 ∨ c.toNat = 58)) : plainC c = false := by rw [plainC, ha]; simpa using h

set_option maxHeartbeats 2000000 in
theorem rplain_any (s : ByteArray) (w : World) (hs : s.size ≤ 9223372036854775807) :
    Calls Tryd.prog 45 #[.string s] w fun e w' => e = .returned (.bool (plainS s)) ∧ w = w' := by
  go_enter Tryd.func45, Tryd.ntmps45
  go_wp2_with fail
  go_loop [3] (fun j => ∃ k : Nat, k ≤ s.size ∧ j = .int .i64 k ∧ Hid ((s.data.toList.take k).all plainC = true)) (fun i => s.size - (intOf i).toNat)
  case atStart => exact ⟨0, Nat.zero_le _, rfl, Lib.hid (by simp)⟩
  case round =>
    obtain ⟨k, hk, rfl, HA⟩ := hrel
    by_cases hlt : k < s.size
    · go_wp2_with fail
      cases ha : alnumC s[k] with
      | true =>
        have HC := Lib.hid (plainC_al ha)
        refine (letter_any s[k] w).mono ?_
        rintro e w1 ⟨rfl, rfl⟩
        rw [ha]
        clear ha
        go_wp2_with fail
        go_round
        case rel => exact ⟨k + 1, by omega, by go_num, Lib.hid (take_all hlt HA.out HC.out)⟩
        case measure => simp [intOf]; omega
      | false =>
        refine (letter_any s[k] w).mono ?_
        rintro e w1 ⟨rfl, rfl⟩
        rw [ha]
        have HAL := Lib.hid ha
        clear ha
        by_cases e1 : s[k].toNat = 45
        · have HC := Lib.hid (plainC_of HAL.out (decide_eq_true (.inl e1)))
          have b1 : ((s[k].toNat : Int) != 45) = false := by rw [e1]; rfl
          clear e1
          go_wp2_with fail
          go_round
          case rel => exact ⟨k + 1, by omega, by go_num, Lib.hid (take_all hlt HA.out HC.out)⟩
          case measure => simp [intOf]; omega
        · have b1 : ((s[k].toNat : Int) != 45) = true := by rw [bne_iff_ne]; omega
          by_cases e2 : s[k].toNat = 95
          · have HC := Lib.hid (plainC_of HAL.out (decide_eq_true (.inr (.inl e2))))
            have b2 : ((s[k].toNat : Int) != 95) = false := by rw [e2]; rfl
            clear e1 e2
            go_wp2_with fail
            go_round
            case rel => exact ⟨k + 1, by omega, by go_num, Lib.hid (take_all hlt HA.out HC.out)⟩
            case measure => simp [intOf]; omega
          · have b2 : ((s[k].toNat : Int) != 95) = true := by rw [bne_iff_ne]; omega
            by_cases e3 : s[k].toNat = 58
            · have HC := Lib.hid (plainC_of HAL.out (decide_eq_true (.inr (.inr e3))))
              have b3 : ((s[k].toNat : Int) != 58) = false := by rw [e3]; rfl
              clear e1 e2 e3
              go_wp2_with fail
              go_round
              case rel => exact ⟨k + 1, by omega, by go_num, Lib.hid (take_all hlt HA.out HC.out)⟩
              case measure => simp [intOf]; omega
            · have b3 : ((s[k].toNat : Int) != 58) = true := by rw [bne_iff_ne]; omega
              have HC := Lib.hid (plainC_no HAL.out (by omega))
              clear e1 e2 e3
              go_wp2_with fail
              go_ret
              exact ⟨ret_bool (by rw [plainS, all_bad hlt HC.out, Bool.and_false]), rfl⟩
    · have HD := Lib.hid (all_done hlt HA.out)
      have hcs : s.size < 1 ∨ 64 < s.size ∨ (1 ≤ s.size ∧ s.size ≤ 64) := by omega
      rcases hcs with h | h | ⟨h1, h2⟩
      all_goals
        go_wp2_with fail
        go_ret
        exact ⟨ret_bool (by rw [plainS, HD.out, Bool.and_true, Bool.eq_iff_iff]; simp; try omega), rfl⟩

theorem indexByte_neg (l : List UInt8) (c : UInt8) : Lib.indexByte l c < 0 ↔ c ∉ l := by
  induction l with
  | nil => simp [Lib.indexByte]
  | cons b r ih =>
    have hg := Lib.indexByte_ge r c
    unfold Lib.indexByte
    by_cases hb : b = c
    · simp [hb]
    · have hb' : (b == c) = false := by simpa using hb
      rw [hb']
      by_cases hr : Lib.indexByte r c = -1
      · simp only [hr, beq_self_eq_true, if_true, List.mem_cons, not_or]
        constructor
        · intro _; exact ⟨fun e => hb e.symm, ih.1 (by omega)⟩
        · intro _; simp
      · have : (Lib.indexByte r c == -1) = false := by simpa using hr
        simp only [this, List.mem_cons, not_or]
        constructor
        · intro h; simp at h; omega
        · intro h; exact absurd (ih.2 h.2) (by omega)
theorem plain_word (s : ByteArray) : (wordS s && decide (Lib.indexByte s.data.toList 46 < 0)) = plainS s := by
  rw [Bool.eq_iff_iff, wordS, plainS]
  simp only [Bool.and_eq_true, decide_eq_true_iff, List.all_eq_true, indexByte_neg]
  constructor
  · rintro ⟨⟨h1, h2⟩, h3⟩
    refine ⟨h1, fun c hc => ?_⟩
    have hw := h2 c hc
    have hne : c.toNat ≠ 46 := fun e => h3 (by rw [show (46 : UInt8) = c from UInt8.toNat_inj.1 (by rw [e]; rfl)]; exact hc)
    simp only [wordC, plainC, Bool.or_eq_true, decide_eq_true_iff] at hw ⊢
    rcases hw with hw | hw
    · exact .inl hw
    · exact .inr (by omega)
  · rintro ⟨h1, h2⟩
    refine ⟨⟨h1, fun c hc => ?_⟩, fun h46 => ?_⟩
    · have hw := h2 c hc
      simp only [wordC, plainC, Bool.or_eq_true, decide_eq_true_iff] at hw ⊢
      rcases hw with hw | hw
      · exact .inl hw
      · exact .inr (by omega)
    · have hw := h2 _ h46
      simp [plainC, alnumC] at hw
set_option maxHeartbeats 1000000 in
theorem plain_any (s : ByteArray) (w : World) (hs : s.size ≤ 9223372036854775807) :
    Calls Tryd.prog 42 #[.string s] w fun e w' => e = .returned (.bool (plainS s)) ∧ w = w' := by
  have HP := Lib.hid (plain_word s)
  cases hw : wordS s with
  | false =>
    go_enter Tryd.func42, Tryd.ntmps42
    go_wp2_with fail
    refine (word_any s w hs).mono ?_
    rintro e w1 ⟨rfl, rfl⟩
    rw [hw]
    have HW := Lib.hid hw
    clear hw
    go_wp2_with fail
    go_ret
    exact ⟨ret_bool (by rw [← HP.out, HW.out]; rfl), rfl⟩
  | true =>
    go_enter Tryd.func42, Tryd.ntmps42
    go_wp2_with fail
    refine (word_any s w hs).mono ?_
    rintro e w1 ⟨rfl, rfl⟩
    rw [hw]
    have HW := Lib.hid hw
    clear hw
    go_wp2_with fail
    refine (Tryd.strings_IndexByte s 46 w).mono ?_
    rintro e w1 ⟨rfl, rfl⟩
    go_wp2_with fail
    go_ret
    exact ⟨ret_bool (by rw [← HP.out, HW.out]; rfl), rfl⟩
end Go.Proofs.YtfiogpoofpajcaaDoor
