/- Plain: strings with a byte between them, one after the other. -/
import Derived.Test.YtnkblimmlkidcaaDoorCodStrs
namespace Go.Proofs.YtnkblimmlkidcaaDoor
open Go.RowKit

theorem joinL_snoc (c : UInt8) : ∀ (ps : List (List UInt8)) (p : List UInt8), ps ≠ [] → joinL c (ps ++ [p]) = joinL c ps ++ c :: p
  | [], p, h => absurd rfl h
  | [q], p, _ => by simp [joinL]
  | q :: r :: ps, p, _ => by
    have ih := joinL_snoc c (r :: ps) p (by simp)
    rw [List.cons_append, joinL_cons c q _ (by simp), ih, joinL_cons c q (r :: ps) (by simp)]
    simp
theorem joinC_zero (c : UInt8) (l : List ByteArray) : joinC c (l.take 0) = ⟨#[]⟩ := by simp [joinC, joinL, bsOf]
theorem joinC_nil (c : UInt8) : joinC c [] = ⟨#[]⟩ := by simp [joinC, joinL, bsOf]
theorem joinC_one (c : UInt8) (s : ByteArray) : joinC c [s] = s := by simp [joinC, joinL, bsOf_list]
theorem take_one (l : List ByteArray) (h : 0 < l.length) : l.take 1 = [l[0]] := by
  cases l with
  | nil => simp at h
  | cons a l => simp
theorem joinC_snoc (c : UInt8) (l : List ByteArray) (k : Nat) (h0 : 0 < k) (h : k < l.length) : joinC c (l.take (k + 1)) = joinC c (l.take k) ++ ⟨#[c]⟩ ++ l[k] := by
  apply ByteArray.ext
  rw [List.take_succ_eq_append_getElem h, joinC, List.map_append, List.map_cons, List.map_nil, joinL_snoc _ _ _ (by intro e; have := congrArg List.length e; rw [List.length_map, List.length_take, List.length_nil] at this; omega)]
  simp [joinC, bsOf]
theorem joinC_size (c : UInt8) (l : List ByteArray) (M : Nat) (hz : ∀ s ∈ l, s.size ≤ M) : ∀ k, k ≤ l.length → (joinC c (l.take k)).size ≤ k * (M + 1) := by
  intro k
  induction k with
  | zero => intro _; rw [joinC_zero]; exact Nat.zero_le _
  | succ k ih =>
    intro hk
    have h1 := hz _ (List.getElem_mem (show k < l.length by omega))
    by_cases h0 : k = 0
    · subst h0
      rw [take_one l (by omega), joinC_one]; omega
    · rw [joinC_snoc c l k (by omega) (by omega)]
      have h2 := ih (by omega)
      have h3 : (⟨#[c]⟩ : ByteArray).size = 1 := rfl
      rw [ByteArray.size_append, ByteArray.size_append, h3, Nat.succ_mul]
      omega
theorem joinC_all (c : UInt8) (l : List ByteArray) (k : Nat) (h : ¬ k < l.length) : joinC c (l.take k) = joinC c l := by
  rw [List.take_of_length_le (by omega)]
end Go.Proofs.YtnkblimmlkidcaaDoor
