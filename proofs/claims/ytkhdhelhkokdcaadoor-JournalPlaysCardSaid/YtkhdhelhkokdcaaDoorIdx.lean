/- The place of a byte in a string. Plain. -/
import Derived.WalkKit
import Derived.Lib.Bytealg
import Derived.Lib.IndexBytes
namespace Go.Proofs.YtkhdhelhkokdcaaDoor
open Go.RowKit

/-- The place of the first byte c. -/
def cutI (s : ByteArray) (c : UInt8) : Int := Lib.indexByte s.data.toList c
theorem indexByte_lt (l : List UInt8) (c : UInt8) : Lib.indexByte l c < l.length := by
  induction l with
  | nil => simp [Lib.indexByte]
  | cons b r ih =>
    unfold Lib.indexByte
    split
    · simp
    · split
      · simp; omega
      · simp; omega
theorem cutI_lt (s : ByteArray) (c : UInt8) : cutI s c < s.size := by
  have := indexByte_lt s.data.toList c
  simpa [cutI] using this
theorem indexByte_eq (l : List UInt8) (c : UInt8) : ∀ i : Nat, Lib.indexByte l c = i ↔ (c ∉ l.take i ∧ l[i]? = some c) := by
  induction l with
  | nil => intro i; simp [Lib.indexByte]
  | cons b r ih =>
    intro i
    have hg := Lib.indexByte_ge r c
    unfold Lib.indexByte
    by_cases hb : b = c
    · subst hb
      cases i with
      | zero => simp
      | succ i => simp; omega
    · have hb' : (b == c) = false := by simpa using hb
      rw [hb']
      cases i with
      | zero =>
        simp only [Bool.false_eq_true, if_false, List.take_zero, List.not_mem_nil, not_false_eq_true, true_and, List.getElem?_cons_zero, Option.some.injEq, hb, iff_false]
        by_cases hr : Lib.indexByte r c = -1
        · simp [hr]
        · simp [hr]; omega
      | succ i =>
        have := ih i
        simp only [Bool.false_eq_true, if_false, List.take_succ_cons, List.mem_cons, not_or, List.getElem?_cons_succ, Ne.symm hb, not_false_eq_true, true_and]
        have hbc : ¬ c = b := fun e => hb e.symm
        rw [← this]
        by_cases hr : Lib.indexByte r c = -1
        · simp [hr]; omega
        · simp [hr]
theorem cutI_eq (s : ByteArray) (c : UInt8) (i : Nat) : cutI s c = i ↔ (c ∉ s.data.toList.take i ∧ s.data.toList[i]? = some c) := indexByte_eq _ c i
theorem ext_front (s : ByteArray) (i : Nat) : (s.extract 0 i).data.toList = s.data.toList.take i := by
  simp [ByteArray.data_extract]
theorem ext_back (s : ByteArray) (i : Nat) : (s.extract i s.size).data.toList = s.data.toList.drop i := Lib.extract_to_end s i
/-- What stands round a byte. -/
theorem split_at (s : ByteArray) (c : UInt8) (i : Nat) (h : s.data.toList[i]? = some c) : s.extract 0 i ++ ⟨#[c]⟩ ++ s.extract (i + 1) s.size = s := by
  apply ByteArray.ext
  apply Array.toList_inj.1
  rw [ByteArray.data_append, ByteArray.data_append, Array.toList_append, Array.toList_append, ext_front, ext_back]
  obtain ⟨hi, he⟩ := List.getElem?_eq_some_iff.1 h
  have : s.data.toList = s.data.toList.take i ++ s.data.toList.drop i := (List.take_append_drop i _).symm
  conv => rhs; rw [this, List.drop_eq_getElem_cons hi, he]
  simp
end Go.Proofs.YtkhdhelhkokdcaaDoor
