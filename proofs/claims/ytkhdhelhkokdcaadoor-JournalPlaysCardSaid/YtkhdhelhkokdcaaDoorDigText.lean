/- digest.Text, digest.Chain and their references compute textS. -/
import Derived.Test.YtkhdhelhkokdcaaDoorProg
import Derived.Test.YtkhdhelhkokdcaaDoorDigPlain
import Derived.Test.YtkhdhelhkokdcaaDoorKit
import Derived.Test.YtkhdhelhkokdcaaDoorDigSum
import Derived.Test.YtkhdhelhkokdcaaDoorDigHex
namespace Go.Proofs.YtkhdhelhkokdcaaDoor
open Go.RowKit

theorem sumMix_range (z : Int) (_h0 : 0 ≤ z) (_h1 : z < 18446744073709551616) : 0 ≤ sumMix z ∧ sumMix z < 18446744073709551616 := by
  unfold sumMix
  generalize IntKind.u64.wrap _ = a
  generalize a / 8589934592 = b
  show 0 ≤ IntKind.u64.wrap _ ∧ IntKind.u64.wrap _ < _
  rw [IntKind.wrap_u64]
  omega
theorem sumS_range (s : ByteArray) : 0 ≤ sumS s ∧ sumS s < 18446744073709551616 := by
  unfold sumS sumMix
  generalize IntKind.u64.wrap _ = a
  generalize a / 8589934592 = b
  show 0 ≤ IntKind.u64.wrap _ ∧ IntKind.u64.wrap _ < _
  rw [IntKind.wrap_u64]
  omega
/-- The hexadecimal digest of a string. -/
def textS (s : ByteArray) : ByteArray := hexS (sumS s)
theorem textS_size (s : ByteArray) : (textS s).size = 16 := hexS_size _

set_option maxHeartbeats 400000 in
theorem text_any (s : ByteArray) (w : World) (hd : DigOk w) (hs : s.size ≤ 9223372036854775807) :
    Calls Tryd.prog 30 #[.string s] w fun e w' => e = .returned (.string (textS s)) ∧ Below w.heap.size w w' := by
  have HR := Lib.hid (sumS_range s)
  go_enter Tryd.func30, Tryd.ntmps30
  go_wp2_with (first | (go_at_call 43; refine (sum_any _ _ hs).mono ?_; rintro e w' ⟨rfl, rfl⟩) | (go_at_call 42; refine (hex_any _ _ hd).mono ?_; rintro e w' ⟨rfl, hb⟩))
  go_ret
  exact ⟨rfl, hb⟩

set_option maxHeartbeats 400000 in
theorem rtext_any (s : ByteArray) (w : World) (hs : s.size ≤ 9223372036854775807) :
    Calls Tryd.prog 35 #[.string s] w fun e w' => e = .returned (.string (textS s)) ∧ w = w' := by
  have HR := Lib.hid (sumS_range s)
  go_enter Tryd.func35, Tryd.ntmps35
  go_wp2_with (first | (go_at_call 49; refine (rsum_any _ _ hs).mono ?_; rintro e w' ⟨rfl, rfl⟩) | (go_at_call 48; refine (rhex_any _ _ HR.out.1 HR.out.2).mono ?_; rintro e w' ⟨rfl, rfl⟩))
  go_ret
  exact ⟨rfl, rfl⟩

/-- "|". -/
def barS : ByteArray := ⟨#[124]⟩
theorem bar_size (p s : ByteArray) (hp : p.size ≤ 1000000) (hs : s.size ≤ 1000000) : (p ++ ⟨#[124]⟩ ++ s).size ≤ 9223372036854775807 := by
  simp only [ByteArray.size_append]
  have : (⟨#[124]⟩ : ByteArray).size = 1 := rfl
  omega
def chainS (p s : ByteArray) : ByteArray := textS (p ++ barS ++ s)

/-- The salted digest behind k rounds. -/
def iterN (salt h : ByteArray) : Nat → ByteArray
  | 0 => h
  | k + 1 => textS (iterN salt h k ++ barS ++ salt)
def iterateS (salt s : ByteArray) (rounds : Int) : ByteArray := iterN salt (textS (salt ++ barS ++ s)) (min (max rounds 0) 64).toNat
theorem iterN_size (salt s : ByteArray) (k : Nat) : (iterN salt (textS s) k).size = 16 := by
  cases k <;> simp [iterN, textS_size]

attribute [irreducible] textS
end Go.Proofs.YtkhdhelhkokdcaaDoor
