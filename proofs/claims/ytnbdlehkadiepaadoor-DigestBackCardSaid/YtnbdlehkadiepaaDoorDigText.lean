/- digest.Text, digest.Chain and their references compute textS. -/
import Derived.Test.YtnbdlehkadiepaaDoorProg
import Derived.Test.YtnbdlehkadiepaaDoorDigPlain
import Derived.Test.YtnbdlehkadiepaaDoorKit
import Derived.Test.YtnbdlehkadiepaaDoorDigSum
import Derived.Test.YtnbdlehkadiepaaDoorDigHex
namespace Go.Proofs.YtnbdlehkadiepaaDoor
open Go.RowKit

theorem sumMix_range (z : Int) (_h0 : 0 ≤ z) (_h1 : z < 18446744073709551616) : 0 ≤ sumMix z ∧ sumMix z < 18446744073709551616 := by
  unfold sumMix
  generalize IntKind.u64.wrap _ = a
  generalize a / 8589934592 = b
  show 0 ≤ IntKind.u64.wrap _ ∧ IntKind.u64.wrap _ < _
  rw [IntKind.wrap_u64]
  omega
theorem sumS_range (s : ByteArray) : 0 ≤ sumS s ∧ sumS s < 18446744073709551616 := by
  unfold sumS sumMix
  generalize IntKind.u64.wrap _ = a
  generalize a / 8589934592 = b
  show 0 ≤ IntKind.u64.wrap _ ∧ IntKind.u64.wrap _ < _
  rw [IntKind.wrap_u64]
  omega
/-- The hexadecimal digest of a string. -/
def textS (s : ByteArray) : ByteArray := hexS (sumS s)
theorem textS_size (s : ByteArray) : (textS s).size = 16 := hexS_size _

set_option maxHeartbeats 400000 in
theorem text_any (s : ByteArray) (w : World) (hd : DigOk w) (hs : s.size ≤ 9223372036854775807) :
    Calls Tryd.prog 16 #[.string s] w fun e w' => e = .returned (.string (textS s)) ∧ Below w.heap.size w w' := by
  have HR := Lib.hid (sumS_range s)
  go_enter Tryd.func16, Tryd.ntmps16
  go_wp2_with (first | (go_at_call 12; refine (sum_any _ _ hs).mono ?_; rintro e w' ⟨rfl, rfl⟩) | (go_at_call 14; refine (hex_any _ _ hd).mono ?_; rintro e w' ⟨rfl, hb⟩))
  go_ret
  exact ⟨rfl, hb⟩

set_option maxHeartbeats 400000 in
theorem rtext_any (s : ByteArray) (w : World) (hs : s.size ≤ 9223372036854775807) :
    Calls Tryd.prog 17 #[.string s] w fun e w' => e = .returned (.string (textS s)) ∧ w = w' := by
  have HR := Lib.hid (sumS_range s)
  go_enter Tryd.func17, Tryd.ntmps17
  go_wp2_with (first | (go_at_call 13; refine (rsum_any _ _ hs).mono ?_; rintro e w' ⟨rfl, rfl⟩) | (go_at_call 15; refine (rhex_any _ _ HR.out.1 HR.out.2).mono ?_; rintro e w' ⟨rfl, rfl⟩))
  go_ret
  exact ⟨rfl, rfl⟩

/-- "|". -/
def barS : ByteArray := ⟨#[124]⟩
theorem bar_size (p s : ByteArray) (hp : p.size ≤ 1000000) (hs : s.size ≤ 1000000) : (p ++ ⟨#[124]⟩ ++ s).size ≤ 9223372036854775807 := by
  simp only [ByteArray.size_append]
  have : (⟨#[124]⟩ : ByteArray).size = 1 := rfl
  omega
def chainS (p s : ByteArray) : ByteArray := textS (p ++ barS ++ s)

set_option maxHeartbeats 400000 in
theorem chain_any (p s : ByteArray) (w : World) (hd : DigOk w) (hp : p.size ≤ 1000000) (hs : s.size ≤ 1000000) :
    Calls Tryd.prog 24 #[.string p, .string s] w fun e w' => e = .returned (.string (chainS p s)) ∧ Below w.heap.size w w' := by
  have HZ := Lib.hid (bar_size p s hp hs)
  go_enter Tryd.func24, Tryd.ntmps24
  go_wp2_with (go_at_call 16; refine (text_any _ _ hd HZ.out).mono ?_; rintro e w' ⟨rfl, hb⟩)
  go_ret
  exact ⟨rfl, hb⟩
set_option maxHeartbeats 400000 in
theorem rchain_any (p s : ByteArray) (w : World) (hp : p.size ≤ 1000000) (hs : s.size ≤ 1000000) :
    Calls Tryd.prog 25 #[.string p, .string s] w fun e w' => e = .returned (.string (chainS p s)) ∧ w = w' := by
  have HZ := Lib.hid (bar_size p s hp hs)
  go_enter Tryd.func25, Tryd.ntmps25
  go_wp2_with (go_at_call 17; refine (rtext_any _ _ HZ.out).mono ?_; rintro e w' ⟨rfl, rfl⟩)
  go_ret
  exact ⟨rfl, rfl⟩

/-- The salted digest behind k rounds. -/
def iterN (salt h : ByteArray) : Nat → ByteArray
  | 0 => h
  | k + 1 => textS (iterN salt h k ++ barS ++ salt)
def iterateS (salt s : ByteArray) (rounds : Int) : ByteArray := iterN salt (textS (salt ++ barS ++ s)) (min (max rounds 0) 64).toNat
theorem iterN_size (salt s : ByteArray) (k : Nat) : (iterN salt (textS s) k).size = 16 := by
  cases k <;> simp [iterN, textS_size]

set_option maxHeartbeats 1000000 in
theorem iterate_any (salt s : ByteArray) (r : Int) (w : World) (hd : DigOk w) (hp : salt.size ≤ 1000000) (hs : s.size ≤ 1000000) :
    Calls Tryd.prog 22 #[.string salt, .string s, .int .i64 r] w fun e w' => e = .returned (.string (iterateS salt s r)) ∧ Below w.heap.size w w' := by
  have HZ := Lib.hid (bar_size salt s hp hs)
  have HN : r < 0 ∨ (0 ≤ r ∧ r ≤ 64) ∨ 64 < r := by omega
  rcases HN with h | ⟨h, h'⟩ | h
  · have HR : Hid ((min (max r 0) 64).toNat = 0) := by show _ = _; omega
    go_enter Tryd.func22, Tryd.ntmps22
    go_wp2_with (go_at_call 16; refine (text_any _ _ hd HZ.out).mono ?_; rintro e w1 ⟨rfl, hb⟩)
    go_loopw [7, 16] (fun h i wr => ∃ k : Nat, k ≤ 0 ∧ i = .int .i64 k ∧ h = .string (iterN salt (textS (salt ++ barS ++ s)) k) ∧ Below w.heap.size w wr) (fun _ i _ => 0 - (intOf i).toNat)
    case atStart => exact ⟨0, Nat.zero_le _, rfl, rfl, hb⟩
    case round =>
      obtain ⟨k, hk, rfl, rfl, hbr⟩ := hrel
      have hsz := iterN_size salt (salt ++ barS ++ s) k
      generalize hq : iterN salt (textS (salt ++ barS ++ s)) k = q at *
      have HQ := Lib.hid hq
      clear hq
      have HZ2 := Lib.hid (bar_size q salt (by omega) hp)
      have hsz' : q.size ≤ 16 := by omega
      clear hsz
      have hd2 := hd.below hbr
      by_cases hlt : k < 0
      · exact absurd hlt (by omega)
      · have e : k = 0 := by omega
        have HE := Lib.hid e
        clear e
        go_wp2
        go_ret
        exact ⟨ret_str (by rw [← HQ.out, iterateS, HR.out, HE.out]), hbr⟩
  · obtain ⟨m, rfl⟩ := Int.eq_ofNat_of_zero_le h
    have HR : Hid ((min (max (m : Int) 0) 64).toNat = m) := by show _ = _; omega
    go_enter Tryd.func22, Tryd.ntmps22
    go_wp2_with (go_at_call 16; refine (text_any _ _ hd HZ.out).mono ?_; rintro e w1 ⟨rfl, hb⟩)
    go_loopw [7, 16] (fun h i wr => ∃ k : Nat, k ≤ m ∧ i = .int .i64 k ∧ h = .string (iterN salt (textS (salt ++ barS ++ s)) k) ∧ Below w.heap.size w wr) (fun _ i _ => m - (intOf i).toNat)
    case atStart => exact ⟨0, Nat.zero_le _, rfl, rfl, hb⟩
    case round =>
      obtain ⟨k, hk, rfl, rfl, hbr⟩ := hrel
      have hsz := iterN_size salt (salt ++ barS ++ s) k
      generalize hq : iterN salt (textS (salt ++ barS ++ s)) k = q at *
      have HQ := Lib.hid hq
      clear hq
      have HZ2 := Lib.hid (bar_size q salt (by omega) hp)
      have hsz' : q.size ≤ 16 := by omega
      clear hsz
      have hd2 := hd.below hbr
      by_cases hlt : k < m
      · go_wp2_with (go_at_call 16; refine (text_any _ _ hd2 HZ2.out).mono ?_; rintro e w2 ⟨rfl, hb2⟩)
        go_roundw
        case rel => exact ⟨k + 1, by omega, by go_num, by rw [iterN, HQ.out]; rfl, bthen hbr hb2⟩
        case measure => simp [intOf]; omega
      · have e : k = m := by omega
        have HE := Lib.hid e
        clear e
        go_wp2
        go_ret
        exact ⟨ret_str (by rw [← HQ.out, iterateS, HR.out, HE.out]), hbr⟩
  · have HR : Hid ((min (max r 0) 64).toNat = 64) := by show _ = _; omega
    go_enter Tryd.func22, Tryd.ntmps22
    go_wp2_with (go_at_call 16; refine (text_any _ _ hd HZ.out).mono ?_; rintro e w1 ⟨rfl, hb⟩)
    go_loopw [7, 16] (fun h i wr => ∃ k : Nat, k ≤ 64 ∧ i = .int .i64 k ∧ h = .string (iterN salt (textS (salt ++ barS ++ s)) k) ∧ Below w.heap.size w wr) (fun _ i _ => 64 - (intOf i).toNat)
    case atStart => exact ⟨0, Nat.zero_le _, rfl, rfl, hb⟩
    case round =>
      obtain ⟨k, hk, rfl, rfl, hbr⟩ := hrel
      have hsz := iterN_size salt (salt ++ barS ++ s) k
      generalize hq : iterN salt (textS (salt ++ barS ++ s)) k = q at *
      have HQ := Lib.hid hq
      clear hq
      have HZ2 := Lib.hid (bar_size q salt (by omega) hp)
      have hsz' : q.size ≤ 16 := by omega
      clear hsz
      have hd2 := hd.below hbr
      by_cases hlt : k < 64
      · go_wp2_with (go_at_call 16; refine (text_any _ _ hd2 HZ2.out).mono ?_; rintro e w2 ⟨rfl, hb2⟩)
        go_roundw
        case rel => exact ⟨k + 1, by omega, by go_num, by rw [iterN, HQ.out]; rfl, bthen hbr hb2⟩
        case measure => simp [intOf]; omega
      · have e : k = 64 := by omega
        have HE := Lib.hid e
        clear e
        go_wp2
        go_ret
        exact ⟨ret_str (by rw [← HQ.out, iterateS, HR.out, HE.out]), hbr⟩
set_option maxHeartbeats 1000000 in
theorem riterate_any (salt s : ByteArray) (r : Int) (w : World) (hp : salt.size ≤ 1000000) (hs : s.size ≤ 1000000) :
    Calls Tryd.prog 23 #[.string salt, .string s, .int .i64 r] w fun e w' => e = .returned (.string (iterateS salt s r)) ∧ w = w' := by
  have HZ := Lib.hid (bar_size salt s hp hs)
  have HN : r < 0 ∨ (0 ≤ r ∧ r ≤ 64) ∨ 64 < r := by omega
  rcases HN with h | ⟨h, h'⟩ | h
  · have HR : Hid ((min (max r 0) 64).toNat = 0) := by show _ = _; omega
    go_enter Tryd.func23, Tryd.ntmps23
    go_wp2_with (go_at_call 17; refine (rtext_any _ _ HZ.out).mono ?_; rintro e w1 ⟨rfl, rfl⟩)
    go_loop [7, 8] (fun h i => ∃ k : Nat, k ≤ 0 ∧ i = .int .i64 k ∧ h = .string (iterN salt (textS (salt ++ barS ++ s)) k)) (fun _ i => 0 - (intOf i).toNat)
    case atStart => exact ⟨0, Nat.zero_le _, rfl, rfl⟩
    case round =>
      obtain ⟨k, hk, rfl, rfl⟩ := hrel
      have hsz := iterN_size salt (salt ++ barS ++ s) k
      generalize hq : iterN salt (textS (salt ++ barS ++ s)) k = q at *
      have HQ := Lib.hid hq
      clear hq
      have HZ2 := Lib.hid (bar_size q salt (by omega) hp)
      have hsz' : q.size ≤ 16 := by omega
      clear hsz
      by_cases hlt : k < 0
      · exact absurd hlt (by omega)
      · have e : k = 0 := by omega
        have HE := Lib.hid e
        clear e
        go_wp2
        go_ret
        exact ⟨ret_str (by rw [← HQ.out, iterateS, HR.out, HE.out]), rfl⟩
  · obtain ⟨m, rfl⟩ := Int.eq_ofNat_of_zero_le h
    have HR : Hid ((min (max (m : Int) 0) 64).toNat = m) := by show _ = _; omega
    go_enter Tryd.func23, Tryd.ntmps23
    go_wp2_with (go_at_call 17; refine (rtext_any _ _ HZ.out).mono ?_; rintro e w1 ⟨rfl, rfl⟩)
    go_loop [7, 8] (fun h i => ∃ k : Nat, k ≤ m ∧ i = .int .i64 k ∧ h = .string (iterN salt (textS (salt ++ barS ++ s)) k)) (fun _ i => m - (intOf i).toNat)
    case atStart => exact ⟨0, Nat.zero_le _, rfl, rfl⟩
    case round =>
      obtain ⟨k, hk, rfl, rfl⟩ := hrel
      have hsz := iterN_size salt (salt ++ barS ++ s) k
      generalize hq : iterN salt (textS (salt ++ barS ++ s)) k = q at *
      have HQ := Lib.hid hq
      clear hq
      have HZ2 := Lib.hid (bar_size q salt (by omega) hp)
      have hsz' : q.size ≤ 16 := by omega
      clear hsz
      by_cases hlt : k < m
      · go_wp2_with (go_at_call 17; refine (rtext_any _ _ HZ2.out).mono ?_; rintro e w2 ⟨rfl, rfl⟩)
        go_round
        case rel => exact ⟨k + 1, by omega, by go_num, by rw [iterN, HQ.out]; rfl⟩
        case measure => simp [intOf]; omega
      · have e : k = m := by omega
        have HE := Lib.hid e
        clear e
        go_wp2
        go_ret
        exact ⟨ret_str (by rw [← HQ.out, iterateS, HR.out, HE.out]), rfl⟩
  · have HR : Hid ((min (max r 0) 64).toNat = 64) := by show _ = _; omega
    go_enter Tryd.func23, Tryd.ntmps23
    go_wp2_with (go_at_call 17; refine (rtext_any _ _ HZ.out).mono ?_; rintro e w1 ⟨rfl, rfl⟩)
    go_loop [7, 8] (fun h i => ∃ k : Nat, k ≤ 64 ∧ i = .int .i64 k ∧ h = .string (iterN salt (textS (salt ++ barS ++ s)) k)) (fun _ i => 64 - (intOf i).toNat)
    case atStart => exact ⟨0, Nat.zero_le _, rfl, rfl⟩
    case round =>
      obtain ⟨k, hk, rfl, rfl⟩ := hrel
      have hsz := iterN_size salt (salt ++ barS ++ s) k
      generalize hq : iterN salt (textS (salt ++ barS ++ s)) k = q at *
      have HQ := Lib.hid hq
      clear hq
      have HZ2 := Lib.hid (bar_size q salt (by omega) hp)
      have hsz' : q.size ≤ 16 := by omega
      clear hsz
      by_cases hlt : k < 64
      · go_wp2_with (go_at_call 17; refine (rtext_any _ _ HZ2.out).mono ?_; rintro e w2 ⟨rfl, rfl⟩)
        go_round
        case rel => exact ⟨k + 1, by omega, by go_num, by rw [iterN, HQ.out]; rfl⟩
        case measure => simp [intOf]; omega
      · have e : k = 64 := by omega
        have HE := Lib.hid e
        clear e
        go_wp2
        go_ret
        exact ⟨ret_str (by rw [← HQ.out, iterateS, HR.out, HE.out]), rfl⟩
attribute [irreducible] textS
end Go.Proofs.YtnbdlehkadiepaaDoor
