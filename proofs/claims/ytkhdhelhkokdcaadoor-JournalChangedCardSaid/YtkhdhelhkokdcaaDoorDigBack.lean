/- Reading the hexadecimal digits back. Plain. -/
import Derived.Test.YtkhdhelhkokdcaaDoorDigRead
import Derived.Test.YtkhdhelhkokdcaaDoorDigMix
namespace Go.Proofs.YtkhdhelhkokdcaaDoor
open Go.RowKit

theorem hexVal_dig (d : Nat) (h : d < 16) : hexVal (hexDig d) = some d := by
  have : ∀ d : Fin 16, hexVal (hexDig d.1) = some d.1 := by decide +kernel
  exact this ⟨d, h⟩
theorem hexDig_val {c : UInt8} {d : Nat} (h : hexVal c = some d) : hexDig d = c := by
  have : ∀ n : Fin 256, ∀ d : Fin 16, hexVal (UInt8.ofNat n.1) = some d.1 → hexDig d.1 = UInt8.ofNat n.1 := by decide +kernel
  have h2 := this ⟨c.toNat, c.toNat_lt⟩ ⟨d, hexVal_lt h⟩
  simpa using h2 (by simpa using h)
theorem dig_nat (k i : Nat) : ((k : Int) / 16 ^ i % 16).toNat = k / 16 ^ i % 16 := by
  have : ((k : Int) / 16 ^ i % 16) = ((k / 16 ^ i % 16 : Nat) : Int) := by simp
  rw [this, Int.toNat_natCast]
theorem read_tail (i : Nat) : ∀ (k m : Nat), (hexTail i (k : Int)).foldl readStep (some m) = some (m * 16 ^ i + k % 16 ^ i) := by
  induction i with
  | zero => intro k m; simp [hexTail, Nat.mod_one]
  | succ i ih =>
    intro k m
    rw [hexTail, List.foldl_cons, dig_nat]
    have e : readStep (some m) (hexDig (k / 16 ^ i % 16)) = some (m * 16 + k / 16 ^ i % 16) := by
      simp [readStep, hexVal_dig _ (Nat.mod_lt _ (by decide : 0 < 16))]
    rw [e, ih, Nat.mod_pow_succ]
    congr 1
    rw [Nat.pow_succ, Nat.add_mul, Nat.mul_assoc, Nat.mul_comm 16 (16 ^ i), Nat.mul_comm (k / 16 ^ i % 16) (16 ^ i)]
    omega
theorem tail_read : ∀ (l : List UInt8) (m k : Nat), l.foldl readStep (some m) = some k → hexTail l.length (k : Int) = l ∧ k / 16 ^ l.length = m
  | [], m, k, h => by cases h; simp [hexTail]
  | c :: l, m, k, h => by
    rw [List.foldl_cons] at h
    cases hc : hexVal c with
    | none =>
      have e : readStep (some m) c = none := by simp [readStep, hc]
      rw [e, readStep_none] at h
      cases h
    | some d =>
      have e : readStep (some m) c = some (m * 16 + d) := by simp [readStep, hc]
      rw [e] at h
      have hd := hexVal_lt hc
      obtain ⟨h1, h2⟩ := tail_read l _ _ h
      refine ⟨?_, ?_⟩
      · rw [List.length_cons, hexTail, dig_nat, h1, h2, show (m * 16 + d) % 16 = d by omega, hexDig_val hc]
      · rw [List.length_cons, Nat.pow_succ, ← Nat.div_div_eq_div_mul, h2]; omega
theorem readhex_hex (n : Int) (h0 : 0 ≤ n) (h1 : n < 18446744073709551616) : readHexN (hexS n) = n ∧ readHexE (hexS n) = 0 := by
  obtain ⟨k, rfl⟩ := Int.eq_ofNat_of_zero_le h0
  have hk : k < 18446744073709551616 := by omega
  have e : readHexO (hexS (k : Int)) = some k := by
    rw [readHexO, if_pos (hexS_size _)]
    have h2 : (hexS (k : Int)).data.toList = hexTail 16 (k : Int) := by simp [hexS]
    rw [h2]
    unfold readL
    rw [read_tail]
    have h3 : (16 : Nat) ^ 16 = 18446744073709551616 := by decide
    rw [h3, Nat.mod_eq_of_lt hk]
    simp
  constructor
  · rw [readHexN, e]; rfl
  · rw [readHexE, e]; rfl
theorem hex_readhex (s : ByteArray) (h : readHexE s = 0) : hexS (readHexN s) = s := by
  unfold readHexE at h
  split at h
  · rename_i hs
    unfold readHexN
    cases e : readHexO s with
    | none => rw [e] at hs; simp at hs
    | some k =>
      unfold readHexO at e
      split at e
      · rename_i h16
        obtain ⟨h1, _⟩ := tail_read _ _ _ e
        have hl : s.data.toList.length = 16 := by simpa using h16
        rw [hl] at h1
        apply ByteArray.ext
        show (hexTail 16 (k : Int)).toArray = s.data
        rw [h1]
      · cases e
  · cases h
theorem readhex_cases (s : ByteArray) : readHexE s = 0 ∨ (readHexE s = 4 ∧ readHexN s = 0) := by
  unfold readHexE readHexN
  cases readHexO s with
  | none => right; simp
  | some k => left; simp
theorem readhex_range (s : ByteArray) : 0 ≤ readHexN s ∧ readHexN s < 18446744073709551616 := by
  unfold readHexN readHexO
  split
  · rename_i h16
    cases e : readL s.data.toList with
    | none => simp
    | some k => have := readL_range h16 e; simp; omega
  · simp
theorem sumS_one (p q : ByteArray) (a b : UInt8) : (sumS (p ++ ⟨#[a]⟩ ++ q) = sumS (p ++ ⟨#[b]⟩ ++ q)) ↔ a = b := by
  constructor
  · intro h
    refine sum_one p.data.toList q.data.toList a b ?_
    unfold sumS at h
    simpa [ByteArray.data_append] using h
  · intro h; rw [h]
end Go.Proofs.YtkhdhelhkokdcaaDoor
