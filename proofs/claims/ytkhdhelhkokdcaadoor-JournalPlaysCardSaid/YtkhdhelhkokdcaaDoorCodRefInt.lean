/- identityref02.Int and codec.Int write the decimal form. -/
import Derived.Test.YtkhdhelhkokdcaaDoorBuilder
import Derived.Test.YtkhdhelhkokdcaaDoorDigMac
import Derived.Laws.IdiomStrings
import Derived.Laws.BitsAllLaws
namespace Go.Proofs.YtkhdhelhkokdcaaDoor
open Go.RowKit

/-- The digits of a number, none of 0. -/
def digP (v : Nat) : List UInt8 := if v = 0 then [] else Lib.decDigits v
theorem digP_step (v : Nat) (h : v ≠ 0) : digP v = digP (v / 10) ++ [UInt8.ofNat (48 + v % 10)] := by
  unfold digP
  rw [if_neg h]
  by_cases h10 : v < 10
  · rw [Lib.decDigits_one h10, if_pos (by omega), Nat.mod_eq_of_lt h10]; rfl
  · rw [if_neg (by omega)]
    conv => lhs; rw [Lib.decDigits, dif_neg h10]
theorem conv1 (w : World) (b : UInt8) : (convert 46 9 (.slice (some ⟨w.heap.size, 0, none⟩) 1 1)).run Tryd.prog (w.alloc (.cells #[.int .u8 (b.toNat : Int)] 5)) =
    .ok (.string ⟨#[b]⟩) (w.alloc (.cells #[.int .u8 (b.toNat : Int)] 5)) := by
  refine run_convert_bytes_back (w.alloc (.cells #[.int .u8 (b.toNat : Int)] 5)) 46 9 5 ⟨w.heap.size, 0, none⟩ 1 [b] Tryd.underlying46 Tryd.underlying5 Tryd.underlying9 (fun j hj => ?_)
  have : j = 0 := by simp at hj; omega
  subst this
  simp [go_sem, Addr.add]
theorem dig_byte (d : Nat) (_h : d < 10) : IntKind.u8.wrap (48 + (d : Int)) = ((UInt8.ofNat (48 + d)).toNat : Int) := by
  rw [IntKind.wrap_u8']; simp
theorem digP_one (v : Nat) (h : v ≠ 0) : (⟨(digP v).toArray⟩ : ByteArray) = decS v := by rw [digP, if_neg h]; rfl

theorem digP_len (u : Nat) (h : u ≤ 9223372036854775808) : (digP u).length ≤ 20 := by
  unfold digP
  split
  · simp
  · have := Lib.nDigits_le20 u (by omega)
    simpa [Lib.decDigits_length] using this
theorem app_one (q : UInt8) (t : List UInt8) : (⟨#[q]⟩ : ByteArray) ++ ⟨t.toArray⟩ = ⟨(q :: t).toArray⟩ := by
  apply ByteArray.ext
  simp [ByteArray.data_append]
set_option maxHeartbeats 2000000 in
theorem rint_any (n : Int) (w : World) (h0 : -9223372036854775808 ≤ n) (h1 : n ≤ 9223372036854775807) :
    Calls Tryd.prog 34 #[.int .i64 n] w fun e w' => e = .returned (.string (itoaS n)) ∧ Below w.heap.size w w' := by
  have hcs : n = 0 ∨ 0 < n ∨ n < 0 := by omega
  rcases hcs with rfl | hn | hn
  · clear h0 h1
    go_enter Tryd.func34, Tryd.ntmps34
    go_wp2_with fail
    go_ret
    exact ⟨ret_str (by decide +kernel), Below.refl _ _⟩
  · obtain ⟨u, rfl⟩ := Int.eq_ofNat_of_zero_le (show 0 ≤ n by omega)
    have hu : u ≠ 0 := by omega
    have HE : Hid (itoaS (u : Int) = ⟨(digP u).toArray⟩) := by show _ = _; rw [itoaS_nat, digP_one u hu]
    have hb0 : ((u : Int) == 0) = false := by rw [beq_eq_false_iff_ne]; omega
    have kc := fun (w : World) (b : UInt8) => conv1 w b
    clear h0 hu
    go_enter Tryd.func34, Tryd.ntmps34
    go_wp2_with fail
    go_loopw [3, 4, 5] (fun out m _ wr => ∃ (v : Nat) (t : List UInt8), v ≤ u ∧ m = .int .i64 (v : Int) ∧ out = .string ⟨t.toArray⟩ ∧ Hid (digP v ++ t = digP u) ∧ Below w.heap.size w wr) (fun _ m _ _ => (intOf m).toNat)
    case atStart => exact ⟨u, [], by omega, rfl, rfl, Lib.hid (by simp), Below.refl _ _⟩
    case round =>
      obtain ⟨v, t, hv, rfl, rfl, HT, hbr⟩ := hrel
      by_cases hv0 : v = 0
      · subst hv0
        go_wp2_with fail
        go_ret
        have hT := HT.out
        rw [show digP 0 = [] from rfl, List.nil_append] at hT
        exact ⟨ret_str (by rw [HE.out, hT]), hbr⟩
      · have hvb : ((v : Int) != 0) = true := by rw [bne_iff_ne]; omega
        obtain ⟨q, HQ⟩ : ∃ q, Hid (UInt8.ofNat (48 + v % 10) = q) := ⟨_, Lib.hid rfl⟩
        have hq : IntKind.u8.wrap (48 + (v : Int) % 10) = (q.toNat : Int) := by
          have := dig_byte (v % 10) (by omega)
          rw [HQ.out] at this
          rw [← this]; simp
        have HS : Hid (digP (v / 10) ++ (q :: t) = digP u) := by
          show _ = _
          rw [← HT.out, digP_step v hv0, HQ.out]; simp
        have hv1 : 0 < v := by omega
        have ht : t.length ≤ 20 := by
          have := congrArg List.length HT.out
          have h3 : (digP u).length ≤ 20 := digP_len u (by omega)
          simp at this; omega
        clear hv0
        go_wp2_with fail
        go_roundw
        case rel => exact ⟨v / 10, q :: t, by omega, by go_num, congrArg Value.string (app_one q t), Lib.hid HS.out, hbr.alloc hbr.size _⟩
        case measure => simp [intOf]; omega
  · obtain ⟨u, hu⟩ : ∃ u : Nat, n = -(u : Int) := ⟨(-n).toNat, by omega⟩
    subst hu
    have hu0 : u ≠ 0 := by omega
    have hul : u ≤ 9223372036854775808 := by omega
    have HE : Hid (itoaS (-(u : Int)) = ⟨#[45]⟩ ++ ⟨(digP u).toArray⟩) := by
      show _ = _
      rw [itoaS, Lib.itoa_neg u (by omega), digP, if_neg hu0]
      apply ByteArray.ext
      simp [ByteArray.data_append]
    have hb0 : (-(u : Int) == 0) = false := by rw [beq_eq_false_iff_ne]; omega
    have kc := fun (w : World) (b : UInt8) => conv1 w b
    clear h1 hu0
    go_enter Tryd.func34, Tryd.ntmps34
    go_wp2_with fail
    go_loopw [3, 4, 5] (fun out m _ wr => ∃ (v : Nat) (t : List UInt8), v ≤ u ∧ m = .int .i64 (-(v : Int)) ∧ out = .string ⟨t.toArray⟩ ∧ Hid (digP v ++ t = digP u) ∧ Below w.heap.size w wr) (fun _ m _ _ => (-(intOf m)).toNat)
    case atStart => exact ⟨u, [], by omega, rfl, rfl, Lib.hid (by simp), Below.refl _ _⟩
    case round =>
      obtain ⟨v, t, hv, rfl, rfl, HT, hbr⟩ := hrel
      have ht : t.length ≤ 20 := by
        have := congrArg List.length HT.out
        have h3 : (digP u).length ≤ 20 := digP_len u (by omega)
        simp at this; omega
      by_cases hv0 : v = 0
      · subst hv0
        have hT : Hid (t = digP u) := by
          have hT := HT.out
          rwa [show digP 0 = [] from rfl, List.nil_append] at hT
        go_wp2_with fail
        go_ret
        exact ⟨ret_str (by rw [HE.out, hT.out]), hbr⟩
      · have hvb : (-(v : Int) != 0) = true := by rw [bne_iff_ne]; omega
        obtain ⟨q, HQ⟩ : ∃ q, Hid (UInt8.ofNat (48 + v % 10) = q) := ⟨_, Lib.hid rfl⟩
        obtain ⟨d, HD⟩ : ∃ d, Hid (v % 10 = d) := ⟨_, Lib.hid rfl⟩
        have hd10 : d < 10 := by have := HD.out; omega
        have hq : IntKind.u8.wrap (48 + (d : Int)) = (q.toNat : Int) := by
          have := dig_byte (v % 10) (by omega)
          rw [HQ.out, HD.out] at this
          exact this
        have HS : Hid (digP (v / 10) ++ (q :: t) = digP u) := by
          show _ = _
          rw [← HT.out, digP_step v hv0, HQ.out]; simp
        have ed : (-(v : Int)).tmod 10 = -(d : Int) := by rw [Int.neg_tmod, Int.tmod_eq_emod_of_nonneg (by omega)]; have := HD.out; omega
        obtain ⟨z, HZ⟩ : ∃ z, Hid (v / 10 = z) := ⟨_, Lib.hid rfl⟩
        have ez : (-(v : Int)).tdiv 10 = -(z : Int) := by rw [Int.neg_tdiv, Int.tdiv_eq_ediv_of_nonneg (by omega)]; have := HZ.out; omega
        have hv1 : 0 < v := by omega
        have hzl : z ≤ v := by have := HZ.out; omega
        clear hv0
        have HR : Hid (digP z ++ (q :: t) = digP u) := by show _ = _; rw [← HZ.out]; exact HS.out
        have hzv : z < v := by have := HZ.out; omega
        by_cases hd0 : d = 0
        · subst hd0
          obtain rfl : q = 48 := by rw [← HQ.out, HD.out]; rfl
          have kc48 : ∀ w : World, (convert 46 9 (.slice (some ⟨w.heap.size, 0, none⟩) 1 1)).run Tryd.prog (w.alloc (.cells #[.int .u8 48] 5)) = .ok (.string ⟨#[48]⟩) (w.alloc (.cells #[.int .u8 48] 5)) := fun w => conv1 w 48
          clear ed
          have ed : (-(v : Int)).tmod 10 = 0 := by rw [Int.neg_tmod, Int.tmod_eq_emod_of_nonneg (by omega)]; have := HD.out; omega
          go_wp2_with fail
          go_roundw
          case rel => exact ⟨z, 48 :: t, by omega, rfl, congrArg Value.string (app_one 48 t), Lib.hid HR.out, hbr.alloc hbr.size _⟩
          case measure => simp [intOf]; omega
        · have hd1 : 0 < d := by omega
          clear hd0
          go_wp2_with fail
          go_roundw
          case rel => exact ⟨z, q :: t, by omega, rfl, congrArg Value.string (app_one q t), Lib.hid HR.out, hbr.alloc hbr.size _⟩
          case measure => simp [intOf]; omega
end Go.Proofs.YtkhdhelhkokdcaaDoor
