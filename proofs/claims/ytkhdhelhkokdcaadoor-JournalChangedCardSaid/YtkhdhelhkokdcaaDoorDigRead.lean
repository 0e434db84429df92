/- digest.ReadHex and its reference. -/
import Derived.Test.YtkhdhelhkokdcaaDoorDigHex
import Derived.Laws.BitsAllLaws
namespace Go.Proofs.YtkhdhelhkokdcaaDoor
open Go.RowKit

/-- The value of a hexadecimal digit. -/
def hexVal (c : UInt8) : Option Nat := if 48 ≤ c.toNat ∧ c.toNat ≤ 57 then some (c.toNat - 48) else if 97 ≤ c.toNat ∧ c.toNat ≤ 102 then some (c.toNat - 87) else none
theorem hexVal_lt {c : UInt8} {d : Nat} (h : hexVal c = some d) : d < 16 := by
  unfold hexVal at h
  split at h
  · cases h; omega
  · split at h
    · cases h; omega
    · cases h
def readStep (o : Option Nat) (c : UInt8) : Option Nat := o.bind fun n => (hexVal c).map fun d => n * 16 + d
/-- The number with hexadecimal digits. -/
def readL (l : List UInt8) : Option Nat := l.foldl readStep (some 0)
theorem readStep_none (l : List UInt8) : l.foldl readStep none = none := by
  induction l with
  | nil => rfl
  | cons c l ih => exact ih
theorem readL_snoc (s : ByteArray) (k : Nat) (h : k < s.size) : readL (s.data.toList.take (k + 1)) = readStep (readL (s.data.toList.take k)) s[k] := by
  rw [take_snoc s k h]; unfold readL; rw [List.foldl_append]; rfl
theorem readL_dead (s : ByteArray) (k : Nat) (h : readL (s.data.toList.take k) = none) : readL s.data.toList = none := by
  conv => lhs; rw [← List.take_append_drop k s.data.toList]
  unfold readL at h ⊢
  rw [List.foldl_append, h, readStep_none]
theorem readL_lt (l : List UInt8) : ∀ {n : Nat}, readL l = some n → n < 16 ^ l.length := by
  suffices h : ∀ (l : List UInt8) (m k : Nat), m < 16 ^ k → ∀ n, l.foldl readStep (some m) = some n → n < 16 ^ (k + l.length) by
    intro n hn
    have := h l 0 0 (by omega) n hn
    simpa using this
  intro l
  induction l with
  | nil => intro m k hm n hn; cases hn; simpa using hm
  | cons c l ih =>
    intro m k hm n hn
    rw [List.foldl_cons] at hn
    cases hc : hexVal c with
    | none =>
      have e : readStep (some m) c = none := by simp [readStep, hc]
      rw [e, readStep_none] at hn
      cases hn
    | some d =>
      have e : readStep (some m) c = some (m * 16 + d) := by simp [readStep, hc]
      rw [e] at hn
      have hd := hexVal_lt hc
      have := ih (m * 16 + d) (k + 1) (by rw [Nat.pow_succ]; omega) n hn
      have e2 : k + (c :: l).length = k + 1 + l.length := by simp; omega
      rw [e2]; exact this
theorem readL_room {s : ByteArray} {k m : Nat} (hk : k < 16) (h : readL (s.data.toList.take k) = some m) : m * 16 < 18446744073709551616 := by
  have h1 := readL_lt _ h
  have h2 : (s.data.toList.take k).length ≤ 15 := by rw [List.length_take]; omega
  have h3 : 16 ^ (s.data.toList.take k).length ≤ 16 ^ 15 := Nat.pow_le_pow_right (by omega) h2
  have h4 : (16 : Nat) ^ 15 = 1152921504606846976 := by decide
  omega
theorem readL_range {s : ByteArray} {m : Nat} (hs : s.size = 16) (h : readL s.data.toList = some m) : m < 18446744073709551616 := by
  have h1 := readL_lt _ h
  have h2 : s.data.toList.length = 16 := by simpa using hs
  rw [h2] at h1
  have h4 : (16 : Nat) ^ 16 = 18446744073709551616 := by decide
  omega
theorem or_step (m d : Nat) (hm : m * 16 < 18446744073709551616) (hd : d < 16) : bits BinOp.or IntKind.u64 (IntKind.u64.wrap ((m : Int) * 16)) (d : Int) = ((m * 16 + d : Nat) : Int) := by
  have e : IntKind.u64.wrap ((m : Int) * 16) = ((m * 16 : Nat) : Int) := by rw [IntKind.wrap_u64]; omega
  rw [e, u64_or_nat _ _ hm (by omega), nat_join 4 (m * 16) d (by omega) (by omega)]
theorem add_step (m d : Nat) (hm : m * 16 < 18446744073709551616) (hd : d < 16) : IntKind.u64.wrap (IntKind.u64.wrap ((m : Int) * 16) + (d : Int)) = ((m * 16 + d : Nat) : Int) := by
  rw [IntKind.wrap_u64, IntKind.wrap_u64]; omega
theorem add_step' (m : Nat) (x : Int) (d : Nat) (hm : m * 16 < 18446744073709551616) (hd : d < 16) (hx : x = d) : IntKind.u64.wrap (IntKind.u64.wrap ((m : Int) * 16) + x) = ((m * 16 + d : Nat) : Int) := by
  rw [hx]; exact add_step m d hm hd
def readHexO (s : ByteArray) : Option Nat := if s.size = 16 then readL s.data.toList else none
def readHexN (s : ByteArray) : Int := ((readHexO s).getD 0 : Nat)
def readHexE (s : ByteArray) : Int := if (readHexO s).isSome then 0 else 4

/-- The last place below k at which the table has a byte. -/
def findV (c : UInt8) : Nat → Int
  | 0 => -1
  | k + 1 => if hexDig k = c then (k : Int) else findV c k
theorem findV_all (c : UInt8) : findV c 16 = match hexVal c with | none => -1 | some d => (d : Int) := by
  have : ∀ n : Fin 256, findV (UInt8.ofNat n.1) 16 = match hexVal (UInt8.ofNat n.1) with | none => -1 | some d => (d : Int) := by decide +kernel
  have h := this ⟨c.toNat, c.toNat_lt⟩
  simpa using h

/-- digits[k], the whole array read out first. -/
theorem idx_dig (k : Nat) (hk : k < 16) (w : World) : (Instr.index 78 (.agg digCells) (.int .i64 (k : Int))).run Tryd.prog w = .ok (.int .u8 ((hexDig k).toNat : Int)) w := by
  rcases k with _|_|_|_|_|_|_|_|_|_|_|_|_|_|_|_|k <;> first | omega | kernel_rfl

end Go.Proofs.YtkhdhelhkokdcaaDoor
