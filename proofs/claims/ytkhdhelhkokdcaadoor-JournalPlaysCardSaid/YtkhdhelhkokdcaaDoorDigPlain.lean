/- Plain functions for the layer digest: what Sum, Hex, ReadHex, Mac .. compute, on byte arrays and integers. No program in sight. -/
import Derived.WalkKit
import Derived.Laws.Bits64
namespace Go.Proofs.YtkhdhelhkokdcaaDoor
open Go.RowKit

/-- One round of Sum's loop. -/
def sumStep (h : Int) (c : UInt8) : Int := IntKind.u64.wrap (bits BinOp.xor IntKind.u64 h (IntKind.u64.wrap (c.toNat : Int)) * 1099511628211)
/-- The loop. -/
def sumRun (l : List UInt8) : Int := l.foldl sumStep 14695981039346656037
/-- The final mixing. -/
def sumMix (z : Int) : Int :=
  (bits BinOp.xor IntKind.u64
              (IntKind.u64.wrap
                (bits BinOp.xor IntKind.u64
                    (IntKind.u64.wrap (bits BinOp.xor IntKind.u64 z (z / 8589934592) * 18397679294719823053))
                    (IntKind.u64.wrap (bits BinOp.xor IntKind.u64 z (z / 8589934592) * 18397679294719823053) /
                      8589934592) *
                  14181476777654086739))
              (IntKind.u64.wrap
                  (bits BinOp.xor IntKind.u64
                      (IntKind.u64.wrap (bits BinOp.xor IntKind.u64 z (z / 8589934592) * 18397679294719823053))
                      (IntKind.u64.wrap (bits BinOp.xor IntKind.u64 z (z / 8589934592) * 18397679294719823053) /
                        8589934592) *
                    14181476777654086739) /
                8589934592))
def sumS (s : ByteArray) : Int := sumMix (sumRun s.data.toList)

theorem take_snoc (s : ByteArray) (k : Nat) (h : k < s.size) : s.data.toList.take (k + 1) = s.data.toList.take k ++ [s[k]] := by
  rw [List.take_succ_eq_append_getElem (by simpa using h)]; rfl
theorem sumRun_snoc (s : ByteArray) (k : Nat) (h : k < s.size) : sumRun (s.data.toList.take (k + 1)) = IntKind.u64.wrap (bits BinOp.xor IntKind.u64 (sumRun (s.data.toList.take k)) (IntKind.u64.wrap (s[k].toNat : Int)) * 1099511628211) := by
  rw [take_snoc s k h]; unfold sumRun; rw [List.foldl_append]; rfl
theorem sumRun_all (s : ByteArray) (k : Nat) (h : ¬ k < s.size) : sumRun (s.data.toList.take k) = sumRun s.data.toList := by
  rw [List.take_of_length_le]; simp; have : s.size = s.data.size := rfl; omega

/-- x & 15 on uint64. -/
theorem and15 (x : Int) : bits BinOp.and IntKind.u64 x 15 = x % 16 := by
  show IntKind.u64.wrap ((BitVec.ofInt 64 x &&& BitVec.ofInt 64 15).toNat : Int) = _
  have h1 : (BitVec.ofInt 64 x).toNat = (x % 18446744073709551616).toNat := by rw [BitVec.toNat_ofInt]; rfl
  have h2 : (BitVec.ofInt 64 15).toNat = 15 := by decide
  rw [BitVec.toNat_and, h1, h2, show (15 : Nat) = 2 ^ 4 - 1 from rfl, Nat.and_two_pow_sub_one_eq_mod, IntKind.wrap_u64]
  omega

/-- The digit with a value below 16. -/
def hexDig (d : Nat) : UInt8 := if d < 10 then UInt8.ofNat (48 + d) else UInt8.ofNat (87 + d)
/-- The last i hexadecimal digits of n. -/
def hexTail : Nat → Int → List UInt8
  | 0, _ => []
  | i + 1, n => hexDig (n / 16 ^ i % 16).toNat :: hexTail i n
/-- The 16 hexadecimal digits of n. -/
def hexS (n : Int) : ByteArray := ⟨(hexTail 16 n).toArray⟩
theorem hexTail_length (i : Nat) (n : Int) : (hexTail i n).length = i := by
  induction i with
  | zero => rfl
  | succ i ih => simp [hexTail, ih]
theorem hexS_size (n : Int) : (hexS n).size = 16 := by
  show (hexTail 16 n).toArray.size = 16
  simp [hexTail_length]
/-- What holds in identityref03.Hex behind k rounds. -/
def HexAt (n : Int) (k : Nat) (z : Int) (t : ByteArray) : Prop := z = n / 16 ^ k ∧ t = ⟨(hexTail k n).toArray⟩
theorem HexAt.zero (n : Int) : HexAt n 0 n ⟨#[]⟩ := ⟨by simp, rfl⟩
theorem digit_extract (d : Nat) (h : d < 16) : (⟨#[48, 49, 50, 51, 52, 53, 54, 55, 56, 57, 97, 98, 99, 100, 101, 102]⟩ : ByteArray).extract d (d + 1) = ⟨#[hexDig d]⟩ := by
  have : ∀ d : Fin 16, (⟨#[48, 49, 50, 51, 52, 53, 54, 55, 56, 57, 97, 98, 99, 100, 101, 102]⟩ : ByteArray).extract d.1 (d.1 + 1) = ⟨#[hexDig d.1]⟩ := by decide +kernel
  exact this ⟨d, h⟩
theorem HexAt.step {n : Int} {k : Nat} {z : Int} {t : ByteArray} (h : HexAt n k z t) (hlt : k < 16) (h0 : 0 ≤ n) (h1 : n < 18446744073709551616) :
    0 ≤ IntKind.u64.wrap (z.tdiv 16) ∧ ((⟨#[48, 49, 50, 51, 52, 53, 54, 55, 56, 57, 97, 98, 99, 100, 101, 102]⟩ : ByteArray).extract (z % 16).toNat (z % 16 + 1).toNat ++ t).size ≤ 16 ∧ HexAt n (k + 1) (IntKind.u64.wrap (z.tdiv 16)) ((⟨#[48, 49, 50, 51, 52, 53, 54, 55, 56, 57, 97, 98, 99, 100, 101, 102]⟩ : ByteArray).extract (z % 16).toNat (z % 16 + 1).toNat ++ t) := by
  obtain ⟨rfl, rfl⟩ := h
  have p16 : (0 : Int) < 16 ^ k := Int.pow_pos (by decide)
  have z0 : 0 ≤ n / 16 ^ k := Int.ediv_nonneg h0 (by omega)
  have z1 : n / 16 ^ k ≤ n := Int.ediv_le_self _ h0
  have hw : IntKind.u64.wrap ((n / 16 ^ k).tdiv 16) = n / 16 ^ (k + 1) := by
    rw [Int.tdiv_eq_ediv_of_nonneg z0, IntKind.wrap_u64, Int.emod_eq_of_lt (by omega) (by omega), Int.pow_succ, Int.ediv_ediv_of_nonneg (by omega)]
  have hx : (⟨#[48, 49, 50, 51, 52, 53, 54, 55, 56, 57, 97, 98, 99, 100, 101, 102]⟩ : ByteArray).extract (n / 16 ^ k % 16).toNat (n / 16 ^ k % 16 + 1).toNat ++ ⟨(hexTail k n).toArray⟩ = ⟨(hexTail (k + 1) n).toArray⟩ := by
    have e : (n / 16 ^ k % 16 + 1).toNat = (n / 16 ^ k % 16).toNat + 1 := by omega
    rw [e, digit_extract _ (by omega)]
    apply ByteArray.ext
    simp [hexTail, ByteArray.data_append]
  rw [hx, hw]
  refine ⟨Int.ediv_nonneg h0 (Int.le_of_lt (Int.pow_pos (by decide))), ?_, rfl, rfl⟩
  show (hexTail (k + 1) n).toArray.size ≤ 16
  simp [hexTail_length]; omega
theorem HexAt.done {n : Int} {k : Nat} {z : Int} {t : ByteArray} (h : HexAt n k z t) (hk : k ≤ 16) (hlt : ¬ k < 16) : t = hexS n := by
  obtain ⟨rfl, rfl⟩ := h
  obtain rfl : k = 16 := by omega
  rfl
/-- The cells of digest.Hex's array when i digits are written. -/
def hexCells (i : Nat) (n : Int) : Array Value := (List.replicate (16 - i) (Value.int IntKind.u8 0) ++ (hexTail i n).map (fun c => Value.int IntKind.u8 (c.toNat : Int))).toArray
end Go.Proofs.YtkhdhelhkokdcaaDoor
