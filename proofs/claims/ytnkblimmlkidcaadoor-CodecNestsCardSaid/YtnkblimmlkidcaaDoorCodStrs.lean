/- The codec's lists, on strings. -/
import Derived.Test.YtnkblimmlkidcaaDoorCodEsc
import Derived.Test.YtnkblimmlkidcaaDoorCodList
namespace Go.Proofs.YtnkblimmlkidcaaDoor
open Go.RowKit

/-- A string of bytes. -/
def bsOf (l : List UInt8) : ByteArray := ⟨l.toArray⟩
theorem bsOf_list (s : ByteArray) : bsOf s.data.toList = s := by cases s; rfl
theorem list_bsOf (l : List UInt8) : (bsOf l).data.toList = l := rfl
theorem map_bsOf (l : List ByteArray) : (l.map (·.data.toList)).map bsOf = l := by
  induction l with
  | nil => rfl
  | cons a l ih => simp only [List.map_cons, bsOf_list]; rw [ih]
theorem map_list (l : List (List UInt8)) : (l.map bsOf).map (·.data.toList) = l := by
  induction l with
  | nil => rfl
  | cons a l ih => simp only [List.map_cons, list_bsOf]; rw [ih]
/-- The pieces between the bytes c. -/
def cutsL (c : UInt8) (l : List UInt8) : List ByteArray := (cutL c l).map bsOf
def cutsS (s : ByteArray) (c : UInt8) : List ByteArray := cutsL c s.data.toList
/-- Strings with a byte c between them. -/
def joinC (c : UInt8) (l : List ByteArray) : ByteArray := bsOf (joinL c (l.map (·.data.toList)))
/-- The form of a list, and its inverse. -/
def joinS (l : List ByteArray) : ByteArray := bsOf (joinE (l.map (·.data.toList)))
def splitO (s : ByteArray) : Option (List ByteArray) := (splitE s.data.toList).map (List.map bsOf)
def splitS (s : ByteArray) : List ByteArray := (splitO s).getD []
def splitErr (s : ByteArray) : Int := if (splitO s).isSome then 0 else 4
theorem split_joinS (l : List ByteArray) : splitO (joinS l) = some l := by
  simp only [splitO, joinS, list_bsOf, split_join, Option.map_some, map_bsOf]
theorem join_splitS {s : ByteArray} {l : List ByteArray} (h : splitO s = some l) : joinS l = s := by
  simp only [splitO, Option.map_eq_some_iff] at h
  obtain ⟨m, h, rfl⟩ := h
  rw [joinS, map_list, join_split _ _ h, bsOf_list]
theorem joinS_inj {a b : List ByteArray} (h : joinS a = joinS b) : a = b := by
  have := split_joinS a
  rw [h, split_joinS] at this
  exact (Option.some.inj this).symm
theorem extract_list (s : ByteArray) (f k : Nat) : (s.extract f k).data.toList = (s.data.toList.take k).drop f := by
  rw [ByteArray.data_extract, Array.toList_extract, List.extract_eq_take_drop, List.drop_take]
/-- A piece more. -/
theorem cuts_step {s : ByteArray} {c : UInt8} {f k : Nat} {P L : List ByteArray} (hf : f ≤ k) (hk : k < s.size) (hc : s[k] = c) (hn : c ∉ (s.data.toList.take k).drop f) (HP : P ++ cutsL c (s.data.toList.drop f) = L) :
    (P ++ [s.extract f k]) ++ cutsL c (s.data.toList.drop (k + 1)) = L := by
  have hl : k < s.data.toList.length := by simpa using hk
  have e : s.data.toList.drop f = (s.data.toList.take k).drop f ++ c :: s.data.toList.drop (k + 1) := by
    have h1 : s.data.toList = s.data.toList.take k ++ s.data.toList.drop k := (List.take_append_drop k _).symm
    have h2 : s.data.toList.drop k = c :: s.data.toList.drop (k + 1) := by
      rw [List.drop_eq_getElem_cons hl, ← hc]; rfl
    rw [h2] at h1
    conv => lhs; rw [h1]
    rw [List.drop_append_of_le_length (by simp; omega)]
  rw [e, cutsL, cutL_app hn, List.map_cons] at HP
  have e2 : bsOf ((s.data.toList.take k).drop f) = s.extract f k := by rw [← extract_list, bsOf_list]
  rw [e2] at HP
  rw [List.append_assoc]
  exact HP
theorem cuts_next {s : ByteArray} {c : UInt8} {f k : Nat} (hf : f ≤ k) (hk : k < s.size) (hc : s[k] ≠ c) (hn : c ∉ (s.data.toList.take k).drop f) : c ∉ (s.data.toList.take (k + 1)).drop f := by
  have hl : k < s.data.toList.length := by simpa using hk
  rw [List.take_succ_eq_append_getElem hl, List.drop_append_of_le_length (by simp; omega)]
  intro h
  rw [List.mem_append] at h
  rcases h with h | h
  · exact hn h
  · rw [List.mem_singleton] at h; exact hc h.symm
theorem cuts_end {s : ByteArray} {c : UInt8} {f k : Nat} {P L : List ByteArray} (hk : ¬ k < s.size) (hn : c ∉ (s.data.toList.take k).drop f) (HP : P ++ cutsL c (s.data.toList.drop f) = L) : P ++ [s.extract f s.size] = L := by
  have hs : s.data.toList.length = s.size := by simp
  have e2 : bsOf (s.data.toList.drop f) = s.extract f s.size := by
    rw [← bsOf_list (s.extract f s.size), extract_list, List.take_of_length_le (by omega)]
  rw [List.take_of_length_le (by omega)] at hn
  rw [cutsL, cutL_nil hn, List.map_cons, e2] at HP
  exact HP
end Go.Proofs.YtnkblimmlkidcaaDoor
