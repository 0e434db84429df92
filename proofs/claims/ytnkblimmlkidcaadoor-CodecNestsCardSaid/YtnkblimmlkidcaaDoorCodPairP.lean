/- Plain: the form of pairs. -/
import Derived.Test.YtnkblimmlkidcaaDoorCodJoin
namespace Go.Proofs.YtnkblimmlkidcaaDoor
open Go.RowKit

def prL (p : ByteArray × ByteArray) : List UInt8 × List UInt8 := (p.1.data.toList, p.2.data.toList)
def prB (p : List UInt8 × List UInt8) : ByteArray × ByteArray := (bsOf p.1, bsOf p.2)
theorem prB_prL (p : ByteArray × ByteArray) : prB (prL p) = p := by cases p; simp [prB, prL, bsOf_list]
theorem prL_prB (p : List UInt8 × List UInt8) : prL (prB p) = p := by cases p; simp [prB, prL, list_bsOf]
theorem map_prB (l : List (ByteArray × ByteArray)) : (l.map prL).map prB = l := by
  induction l with
  | nil => rfl
  | cons a l ih => simp only [List.map_cons, prB_prL, ih]
theorem map_prL (l : List (List UInt8 × List UInt8)) : (l.map prB).map prL = l := by
  induction l with
  | nil => rfl
  | cons a l ih => simp only [List.map_cons, prL_prB, ih]
/-- The form of a pair, of pairs, and the pairs with a form. -/
def pairS (p : ByteArray × ByteArray) : ByteArray := escS p.1 ++ ⟨#[61]⟩ ++ escS p.2
def pairsS (l : List (ByteArray × ByteArray)) : ByteArray := bsOf (pairsE (l.map prL))
def readPairsO (s : ByteArray) : Option (List (ByteArray × ByteArray)) := (readPairsE s.data.toList).map (List.map prB)
def readPairsS (s : ByteArray) : List (ByteArray × ByteArray) := (readPairsO s).getD []
def readPairsErr (s : ByteArray) : Int := if (readPairsO s).isSome then 0 else 4
theorem pairS_list (p : ByteArray × ByteArray) : (pairS p).data.toList = pairE (prL p) := by
  simp [pairS, pairE, prL, escS]
theorem pairsS_eq (l : List (ByteArray × ByteArray)) : pairsS l = joinC 124 (l.map pairS) := by
  have : (l.map pairS).map (·.data.toList) = (l.map prL).map pairE := by
    induction l with
    | nil => rfl
    | cons a l ih => simp only [List.map_cons, ih, pairS_list]
  rw [joinC, this]; rfl
theorem readPairs_pairsS (l : List (ByteArray × ByteArray)) : readPairsO (pairsS l) = some l := by
  simp only [readPairsO, pairsS, list_bsOf, readPairs_pairs, Option.map_some, map_prB]
theorem pairs_readPairsS {s : ByteArray} {l : List (ByteArray × ByteArray)} (h : readPairsO s = some l) : pairsS l = s := by
  simp only [readPairsO, Option.map_eq_some_iff] at h
  obtain ⟨m, h, rfl⟩ := h
  rw [pairsS, map_prL, pairs_readPairs _ _ h, bsOf_list]
theorem pairS_size (p : ByteArray × ByteArray) (h1 : p.1.size ≤ 150000) (h2 : p.2.size ≤ 150000) : (pairS p).size ≤ 1000000 := by
  have e1 := escS_size p.1
  have e2 := escS_size p.2
  have e3 : (⟨#[61]⟩ : ByteArray).size = 1 := rfl
  rw [pairS, ByteArray.size_append, ByteArray.size_append, e3]; omega
/-- A slice's address reads as a list of pairs. -/
def PairsAt (w : World) (A : Option Addr) (l : List (ByteArray × ByteArray)) : Prop :=
  ∀ i, (h : i < l.length) → ∃ b o, A = some ⟨b, o, none⟩ ∧ w.cell? ⟨b, o + i * 2, none⟩ = some (.string l[i].1) ∧ w.cell? ⟨b, o + i * 2 + 1, none⟩ = some (.string l[i].2)
theorem PairsAt.below {w w' : World} {A : Option Addr} {l : List (ByteArray × ByteArray)} (h : PairsAt w A l) (hb : Below w.heap.size w w') : PairsAt w' A l := by
  intro i hi
  obtain ⟨b, o, e, hc1, hc2⟩ := h i hi
  exact ⟨b, o, e, (hb.cell (World.block_lt_of_cell? w _ hc1)).trans hc1, (hb.cell (World.block_lt_of_cell? w _ hc2)).trans hc2⟩
end Go.Proofs.YtnkblimmlkidcaaDoor
