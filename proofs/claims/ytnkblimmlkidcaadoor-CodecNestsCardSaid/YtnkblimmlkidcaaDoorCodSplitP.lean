/- Plain: the pieces of a string, by the first place of the separator. -/
import Derived.Test.YtnkblimmlkidcaaDoorCodStrs
import Derived.Test.YtnkblimmlkidcaaDoorIdx
namespace Go.Proofs.YtnkblimmlkidcaaDoor
open Go.RowKit

theorem cutL_len (c : UInt8) (l : List UInt8) : (cutL c l).length = l.count c + 1 := by
  induction l with
  | nil => rfl
  | cons a l ih =>
    rw [cutL]
    by_cases h : a = c
    · subst h; simp [ih]
    · simp only [if_neg h]
      cases hc : cutL c l with
      | nil => exact absurd hc (cutL_ne c l)
      | cons p ps => rw [hc] at ih; simp [h]; simpa using ih
theorem cutsL_len (c : UInt8) (l : List UInt8) : (cutsL c l).length = l.count c + 1 := by rw [cutsL, List.length_map, cutL_len]
theorem cutsS_len (s : ByteArray) (c : UInt8) : (cutsS s c).length = s.data.toList.count c + 1 := cutsL_len c _
theorem cutsS_le (s : ByteArray) (c : UInt8) : (cutsS s c).length ≤ s.size + 1 := by
  rw [cutsS_len]
  have := @List.count_le_length _ _ c s.data.toList
  have : s.data.toList.length = s.size := by simp
  omega
theorem mem_idx {s : ByteArray} {c : UInt8} (h : 2 ≤ (cutsS s c).length) : ∃ i : Nat, cutI s c = i := by
  rw [cutsS_len] at h
  have hm : c ∈ s.data.toList := List.count_pos_iff.1 (by omega)
  have hg := Lib.indexByte_ge s.data.toList c
  refine Int.eq_ofNat_of_zero_le ?_
  by_cases h0 : 0 ≤ cutI s c
  · exact h0
  · exfalso
    have e : Lib.indexByte s.data.toList c = -1 := by have : cutI s c = Lib.indexByte s.data.toList c := rfl; omega
    obtain ⟨k, hk⟩ := List.mem_iff_getElem?.1 hm
    exact Lib.indexByte_none e k hk
theorem cutsS_hit {s : ByteArray} {c : UInt8} {i : Nat} (h : cutI s c = i) : cutsS s c = s.extract 0 i :: cutsS (s.extract (i + 1) s.size) c := by
  obtain ⟨h1, h2⟩ := (cutI_eq s c i).1 h
  have hl : i < s.data.toList.length := (List.getElem?_eq_some_iff.1 h2).1
  have e : s.data.toList = s.data.toList.take i ++ c :: s.data.toList.drop (i + 1) := by
    have h3 : s.data.toList.drop i = c :: s.data.toList.drop (i + 1) := by
      rw [List.drop_eq_getElem_cons hl]
      rw [List.getElem?_eq_getElem hl] at h2
      rw [Option.some.inj h2]
    conv => lhs; rw [← List.take_append_drop i s.data.toList, h3]
  rw [cutsS, e, cutsL, cutL_app h1, List.map_cons, cutsS, cutsL, ext_back, ← ext_front, bsOf_list]
theorem cutsS_miss {s : ByteArray} {c : UInt8} (h : (cutsS s c).length = 1) : cutsS s c = [s] := by
  rw [cutsS_len] at h
  have hm : c ∉ s.data.toList := List.count_eq_zero.1 (by omega)
  rw [cutsS, cutsL, cutL_nil hm, List.map_cons, List.map_nil, bsOf_list]
end Go.Proofs.YtnkblimmlkidcaaDoor
