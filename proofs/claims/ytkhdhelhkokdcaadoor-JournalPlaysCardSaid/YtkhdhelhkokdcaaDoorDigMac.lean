/- digest.Mac and its reference compute macS. -/
import Derived.Test.YtkhdhelhkokdcaaDoorDigText
import Derived.Test.YtkhdhelhkokdcaaDoorShelf
import Derived.Lib.LaidTab
import Derived.Lib.AppendIntMem
import Derived.Lib.ItoaLen
import Derived.Lib.ItoaMem
namespace Go.Proofs.YtkhdhelhkokdcaaDoor
open Go.RowKit

/-- The table of powers of ten is laid. -/
def PowOk (w : World) : Prop := (∃ g, Tryd.prog.globalNamed "internal/strconv.uint64pow10" = some g ∧ g < w.heap.size) ∧ Lib.TabIs Tryd.prog w "internal/strconv.uint64pow10" .u64 Lib.pow10Tab
theorem PowOk.below {w w' : World} (h : PowOk w) (hb : Below w.heap.size w w') : PowOk w' := by
  obtain ⟨⟨g, hg, hl⟩, ht⟩ := h
  exact ⟨⟨g, hg, Nat.lt_of_lt_of_le hl hb.size⟩, var?_below hb hg hl ht⟩
/-- The decimal form of a number, as a string. -/
def itoaS (n : Int) : ByteArray := ⟨(Lib.itoa n).toArray⟩
theorem itoaS_size (n : Int) (h0 : -9223372036854775808 ≤ n) (h1 : n ≤ 9223372036854775807) : (itoaS n).size ≤ 21 := by
  show (Lib.itoa n).toArray.size ≤ 21
  simpa using Lib.itoa_length_le n h0 h1
/-- strconv.Itoa. -/
theorem itoa_any (n : Int) (w : World) (h0 : -9223372036854775808 ≤ n) (h1 : n ≤ 9223372036854775807) (hp : PowOk w) :
    Calls Tryd.prog 33 #[.int .i64 n] w fun e w' => e = .returned (.string (itoaS n)) ∧ Below w.heap.size w w' :=
  (Tryd.strconv_Itoa n h0 h1 w hp.2).mono fun _ _ ⟨he, k, os, hw⟩ => ⟨he, by rw [hw]; exact Lib.below_grow _ _ (Nat.le_refl _) _ _⟩

theorem decDigits_piece (d : Nat) (h : d < 10) : (⟨#[48, 49, 50, 51, 52, 53, 54, 55, 56, 57]⟩ : ByteArray).extract d (d + 1) = ⟨(Lib.decDigits d).toArray⟩ := by
  have : ∀ d : Fin 10, (⟨#[48, 49, 50, 51, 52, 53, 54, 55, 56, 57]⟩ : ByteArray).extract d.1 (d.1 + 1) = ⟨#[UInt8.ofNat (48 + d.1)]⟩ := by decide +kernel
  rw [this ⟨d, h⟩, Lib.decDigits_one h]
def decS (n : Nat) : ByteArray := ⟨(Lib.decDigits n).toArray⟩
theorem decS_size (n : Nat) (h : n < 18446744073709551616) : (decS n).size ≤ 20 := by
  show (Lib.decDigits n).toArray.size ≤ 20
  have := Lib.nDigits_le20 n h
  simpa [Lib.decDigits_length] using this

def macP (key : ByteArray) : ByteArray := itoaS key.size ++ ⟨#[58]⟩ ++ key
def macS (key s : ByteArray) : ByteArray := textS (macP key ++ textS (macP key ++ s))
theorem itoaS_nat (n : Nat) : itoaS n = decS n := by unfold itoaS decS; rw [Lib.itoa_nonneg]
theorem macP_size (key : ByteArray) (h : key.size ≤ 1000000) : (macP key).size ≤ 1000022 := by
  have := itoaS_size key.size (by omega) (by omega)
  have h1 : (⟨#[58]⟩ : ByteArray).size = 1 := rfl
  simp only [macP, ByteArray.size_append]
  omega

theorem macP_size2 (key s : ByteArray) (h : key.size ≤ 1000000) (hs : s.size ≤ 1000000) : (macP key ++ s).size ≤ 9223372036854775807 := by
  have := macP_size key h
  simp only [ByteArray.size_append]
  omega

end Go.Proofs.YtkhdhelhkokdcaaDoor
