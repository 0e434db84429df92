/- Plain: the pairs with a form, by the first place of the sign between key and value. -/
import Derived.Test.YtnkblimmlkidcaaDoorCodPairP
import Derived.Test.YtnkblimmlkidcaaDoorCodSplit
import Derived.Test.YtnkblimmlkidcaaDoorCodFirst
import Derived.Test.YtnkblimmlkidcaaDoorCut
namespace Go.Proofs.YtnkblimmlkidcaaDoor
open Go.RowKit

def unPairO (x : ByteArray) : Option (ByteArray × ByteArray) :=
  if 0 ≤ cutI x 61 then (unescO (cutB x 61)).bind fun k => (unescO (cutA x 61)).map fun v => (k, v) else none
def unPairsO : List ByteArray → Option (List (ByteArray × ByteArray))
  | [] => some []
  | p :: ps => (unPairO p).bind fun q => (unPairsO ps).map (q :: ·)
theorem unPairO_eq (t : List UInt8) : (unPair t).map prB = unPairO (bsOf t) := by
  by_cases h : (61 : UInt8) ∈ t
  · obtain ⟨e, hn⟩ := mem_parts h
    have hi : cutI (bsOf t) 61 = ((t.takeWhile (· ≠ 61)).length : Nat) := by
      rw [cutI_eq]
      show (61 : UInt8) ∉ t.take _ ∧ t[_]? = some 61
      generalize t.takeWhile (· ≠ 61) = a at *
      generalize (t.dropWhile (· ≠ 61)).tail = b at *
      subst e
      exact ⟨by rw [List.take_left]; exact hn, by simp⟩
    have hp : 0 ≤ cutI (bsOf t) 61 := by rw [hi]; omega
    rw [unPair, if_pos h, unPairO, if_pos hp]
    have eB : cutB (bsOf t) 61 = bsOf (t.takeWhile (· ≠ 61)) := by
      rw [cutB, if_pos hp, hi, Int.toNat_natCast, ← bsOf_list ((bsOf t).extract 0 _), ext_front]
      generalize t.takeWhile (· ≠ 61) = a at *
      generalize (t.dropWhile (· ≠ 61)).tail = b at *
      subst e
      rw [list_bsOf, List.take_left]
    have eA : cutA (bsOf t) 61 = bsOf ((t.dropWhile (· ≠ 61)).tail) := by
      rw [cutA, if_pos hp, hi, Int.toNat_natCast, ← bsOf_list ((bsOf t).extract _ _), ext_back]
      generalize t.takeWhile (· ≠ 61) = a at *
      generalize (t.dropWhile (· ≠ 61)).tail = b at *
      subst e
      rw [list_bsOf, ← List.drop_drop]
      simp
    rw [eA, eB]
    show _ = ((unE (bsOf _).data.toList 0).map fun l => (⟨l.toArray⟩ : ByteArray)).bind fun k => ((unE (bsOf _).data.toList 0).map fun l => (⟨l.toArray⟩ : ByteArray)).map fun v => (k, v)
    rw [list_bsOf, list_bsOf]
    cases unE (t.takeWhile (· ≠ 61)) 0 with
    | none => rfl
    | some a =>
      cases unE ((t.dropWhile (· ≠ 61)).tail) 0 with
      | none => rfl
      | some b => rfl
  · have hi : cutI (bsOf t) 61 = -1 := cutI_none h
    rw [unPair, if_neg h, unPairO, if_neg (by rw [hi]; omega)]; rfl
theorem unPairsO_eq (l : List (List UInt8)) : (unPairs l).map (List.map prB) = unPairsO (l.map bsOf) := by
  induction l with
  | nil => rfl
  | cons p ps ih =>
    rw [unPairs, List.map_cons, unPairsO, ← ih, ← unPairO_eq]
    cases unPair p with
    | none => rfl
    | some a =>
      cases unPairs ps with
      | none => rfl
      | some r => rfl
theorem readPairsO_else {s : ByteArray} (h : s ≠ ⟨#[]⟩) : readPairsO s = unPairsO (cutsS s 124) := by
  have e1 : ¬ s.data.toList = [] := fun e => h (by rw [← bsOf_list s, e]; rfl)
  rw [readPairsO, readPairsE, if_neg e1, unPairsO_eq]; rfl
theorem readPairsO_nil : readPairsO ⟨#[]⟩ = some [] := rfl
end Go.Proofs.YtnkblimmlkidcaaDoor
