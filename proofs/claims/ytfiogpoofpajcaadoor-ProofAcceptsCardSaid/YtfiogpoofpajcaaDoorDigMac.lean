/- digest.Mac and its reference compute macS. -/
import Derived.Test.YtfiogpoofpajcaaDoorDigText
import Derived.Test.YtfiogpoofpajcaaDoorShelf
import Derived.Lib.LaidTab
import Derived.Lib.AppendIntMem
import Derived.Lib.ItoaLen
import Derived.Lib.ItoaMem
namespace Go.Proofs.YtfiogpoofpajcaaDoor
open Go.RowKit

/-- The table of powers of ten is laid. -/
def PowOk (w : World) : Prop := (∃ g, Tryd.prog.globalNamed "internal/strconv.uint64pow10" = some g ∧ g < w.heap.size) ∧ Lib.TabIs Tryd.prog w "internal/strconv.uint64pow10" .u64 Lib.pow10Tab
theorem PowOk.below {w w' : World} (h : PowOk w) (hb : Below w.heap.size w w') : PowOk w' := by
  obtain ⟨⟨g, hg, hl⟩, ht⟩ := h
  exact ⟨⟨g, hg, Nat.lt_of_lt_of_le hl hb.size⟩, var?_below hb hg hl ht⟩
/-- The decimal form of a number, as a string. -/
def itoaS (n : Int) : ByteArray := ⟨(Lib.itoa n).toArray⟩
theorem itoaS_size (n : Int) (h0 : -9223372036854775808 ≤ n) (h1 : n ≤ 9223372036854775807) : (itoaS n).size ≤ 21 := by
  show (Lib.itoa n).toArray.size ≤ 21
  simpa using Lib.itoa_length_le n h0 h1
/-- strconv.Itoa. -/
theorem itoa_any (n : Int) (w : World) (h0 : -9223372036854775808 ≤ n) (h1 : n ≤ 9223372036854775807) (hp : PowOk w) :
    Calls Tryd.prog 39 #[.int .i64 n] w fun e w' => e = .returned (.string (itoaS n)) ∧ Below w.heap.size w w' :=
  (Tryd.strconv_Itoa n h0 h1 w hp.2).mono fun _ _ ⟨he, k, os, hw⟩ => ⟨he, by rw [hw]; exact Lib.below_grow _ _ (Nat.le_refl _) _ _⟩

theorem decDigits_piece (d : Nat) (h : d < 10) : (⟨#[48, 49, 50, 51, 52, 53, 54, 55, 56, 57]⟩ : ByteArray).extract d (d + 1) = ⟨(Lib.decDigits d).toArray⟩ := by
  have : ∀ d : Fin 10, (⟨#[48, 49, 50, 51, 52, 53, 54, 55, 56, 57]⟩ : ByteArray).extract d.1 (d.1 + 1) = ⟨#[UInt8.ofNat (48 + d.1)]⟩ := by decide +kernel
  rw [this ⟨d, h⟩, Lib.decDigits_one h]
def decS (n : Nat) : ByteArray := ⟨(Lib.decDigits n).toArray⟩
theorem decS_size (n : Nat) (h : n < 18446744073709551616) : (decS n).size ≤ 20 := by
  show (Lib.decDigits n).toArray.size ≤ 20
  have := Lib.nDigits_le20 n h
  simpa [Lib.decDigits_length] using this

set_option maxHeartbeats 1000000 in
theorem decimal_any (k : Nat) : ∀ (n : Nat) (w : World), n ≤ k → n < 1000000000 →
    Calls Tryd.prog 56 #[.int .i64 (n : Int)] w fun e w' => e = .returned (.string (decS n)) ∧ w = w' := by
  induction k with
  | zero =>
    intro n w hk hb
    obtain rfl : n = 0 := by omega
    go_enter Tryd.func56, Tryd.ntmps56
    go_wp2_with fail
    go_ret
    exact ⟨ret_str (decDigits_piece 0 (by omega)), rfl⟩
  | succ k ih =>
    intro n w hk hb
    by_cases hn : n < 10
    · have HP := Lib.hid (decDigits_piece n hn)
      go_enter Tryd.func56, Tryd.ntmps56
      go_wp2_with fail
      go_ret
      exact ⟨ret_str HP.out, rfl⟩
    · have H1 := Lib.hid (ih (n / 10) w (by omega) (by omega))
      have H2 := Lib.hid (ih (n % 10) w (by omega) (by omega))
      have s1 := decS_size (n / 10) (by omega)
      have s2 := decS_size (n % 10) (by omega)
      clear ih
      go_enter Tryd.func56, Tryd.ntmps56
      go_wp2_with fail
      refine H1.out.mono ?_
      rintro e w1 ⟨rfl, rfl⟩
      go_wp2_with fail
      refine H2.out.mono ?_
      rintro e w1 ⟨rfl, rfl⟩
      go_wp2_with fail
      go_ret
      refine ⟨ret_str ?_, rfl⟩
      show decS (n / 10) ++ decS (n % 10) = decS n
      unfold decS
      rw [Lib.decDigits_one (i := n % 10) (by omega)]
      conv => rhs; rw [Lib.decDigits, dif_neg hn]
      apply ByteArray.ext
      simp [ByteArray.data_append]

def macP (key : ByteArray) : ByteArray := itoaS key.size ++ ⟨#[58]⟩ ++ key
def macS (key s : ByteArray) : ByteArray := textS (macP key ++ textS (macP key ++ s))
theorem itoaS_nat (n : Nat) : itoaS n = decS n := by unfold itoaS decS; rw [Lib.itoa_nonneg]
theorem macP_size (key : ByteArray) (h : key.size ≤ 1000000) : (macP key).size ≤ 1000022 := by
  have := itoaS_size key.size (by omega) (by omega)
  have h1 : (⟨#[58]⟩ : ByteArray).size = 1 := rfl
  simp only [macP, ByteArray.size_append]
  omega

theorem macP_size2 (key s : ByteArray) (h : key.size ≤ 1000000) (hs : s.size ≤ 1000000) : (macP key ++ s).size ≤ 9223372036854775807 := by
  have := macP_size key h
  simp only [ByteArray.size_append]
  omega

set_option maxHeartbeats 1000000 in
theorem mac_any (key s : ByteArray) (w : World) (hd : DigOk w) (hp : PowOk w) (hk : key.size ≤ 1000000) (hs : s.size ≤ 1000000) :
    Calls Tryd.prog 26 #[.string key, .string s] w fun e w' => e = .returned (.string (macS key s)) ∧ Below w.heap.size w w' := by
  have h1 := itoaS_size key.size (by omega) (by omega)
  have HI := Lib.hid (itoa_any key.size w (by omega) (by omega) hp)
  have ht := textS_size (macP key ++ s)
  have HZ1 : Hid ((itoaS key.size ++ ⟨#[58]⟩ ++ key ++ s).size ≤ 9223372036854775807) := macP_size2 key s hk hs
  have HZ2 : Hid ((itoaS key.size ++ ⟨#[58]⟩ ++ key ++ textS (macP key ++ s)).size ≤ 9223372036854775807) := macP_size2 key _ hk (by omega)
  have ht' : (textS (itoaS key.size ++ ⟨#[58]⟩ ++ key ++ s)).size ≤ 16 := Nat.le_of_eq ht
  clear ht
  go_enter Tryd.func26, Tryd.ntmps26
  go_wp2_with fail
  refine HI.out.mono ?_
  rintro e w1 ⟨rfl, hb1⟩
  go_wp2_with fail
  refine (text_any _ _ (hd.below hb1) HZ1.out).mono ?_
  rintro e w2 ⟨rfl, hb2⟩
  go_wp2_with fail
  refine (text_any _ _ ((hd.below hb1).below hb2) HZ2.out).mono ?_
  rintro e w3 ⟨rfl, hb3⟩
  go_wp2_with fail
  go_ret
  exact ⟨rfl, bthen (bthen hb1 hb2) hb3⟩

set_option maxHeartbeats 1000000 in
theorem rmac_any (key s : ByteArray) (w : World) (hk : key.size ≤ 1000000) (hs : s.size ≤ 1000000) :
    Calls Tryd.prog 47 #[.string key, .string s] w fun e w' => e = .returned (.string (macS key s)) ∧ w = w' := by
  have h1 := decS_size key.size (by omega)
  have HI := Lib.hid (decimal_any key.size key.size w (by omega) (by omega))
  have ht := textS_size (macP key ++ s)
  have HE : Hid (macP key = decS key.size ++ ⟨#[58]⟩ ++ key) := by show _ = _; rw [macP, itoaS_nat]
  have HZ1 : Hid ((decS key.size ++ ⟨#[58]⟩ ++ key ++ s).size ≤ 9223372036854775807) := by show _ ≤ _; rw [← HE.out]; exact macP_size2 key s hk hs
  have HZ2 : Hid ((decS key.size ++ ⟨#[58]⟩ ++ key ++ textS (decS key.size ++ ⟨#[58]⟩ ++ key ++ s)).size ≤ 9223372036854775807) := by show _ ≤ _; rw [← HE.out]; exact macP_size2 key _ hk (by omega)
  have ht' : (textS (decS key.size ++ ⟨#[58]⟩ ++ key ++ s)).size ≤ 16 := by rw [← HE.out]; exact Nat.le_of_eq ht
  clear ht
  go_enter Tryd.func47, Tryd.ntmps47
  go_wp2_with fail
  refine HI.out.mono ?_
  rintro e w1 ⟨rfl, rfl⟩
  go_wp2_with fail
  refine (rtext_any _ _ HZ1.out).mono ?_
  rintro e w2 ⟨rfl, rfl⟩
  go_wp2_with fail
  refine (rtext_any _ _ HZ2.out).mono ?_
  rintro e w3 ⟨rfl, rfl⟩
  go_wp2_with fail
  go_ret
  exact ⟨ret_str (by rw [macS, HE.out]), rfl⟩
end Go.Proofs.YtfiogpoofpajcaaDoor
