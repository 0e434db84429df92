/- codec.ReadPairs computes readPairsS, readPairsErr. -/
import Derived.Test.YtnkblimmlkidcaaDoorCodReadP
import Derived.Test.YtnkblimmlkidcaaDoorCodRPairs
import Derived.Test.YtnkblimmlkidcaaDoorCodSplitS
namespace Go.Proofs.YtnkblimmlkidcaaDoor
open Go.RowKit

theorem Tryd.info_pair : (Tryd.prog.info? 37).map (fun i => (i.zero, i.size, i.bytes)) = some (some (.agg #[.string ByteArray.empty, .string ByteArray.empty]), 2, 32) := by kernel_rfl
/-- The cells of a list of pairs. -/
def prVs : List (ByteArray × ByteArray) → List Value
  | [] => []
  | p :: l => .string p.1 :: .string p.2 :: prVs l
theorem prVs_append (l m : List (ByteArray × ByteArray)) : prVs (l ++ m) = prVs l ++ prVs m := by
  induction l with
  | nil => rfl
  | cons a l ih => simp [prVs, ih]
theorem prVs_snoc (l : List (ByteArray × ByteArray)) (a b : ByteArray) : prVs l ++ [.string a, .string b] = prVs (l ++ [(a, b)]) := by rw [prVs_append]; rfl
theorem prVs_len (l : List (ByteArray × ByteArray)) : (prVs l).length = l.length * 2 := by
  induction l with
  | nil => rfl
  | cons a l ih => simp [prVs, ih]; omega
theorem prVs_at : ∀ (l : List (ByteArray × ByteArray)) (j : Nat) (h : j < l.length), (prVs l)[j * 2]? = some (.string l[j].1) ∧ (prVs l)[j * 2 + 1]? = some (.string l[j].2)
  | [], j, h => absurd h (by simp)
  | p :: l, 0, h => by simp [prVs]
  | p :: l, j + 1, h => by
    have ih := prVs_at l j (by simpa using h)
    rw [show (j + 1) * 2 = j * 2 + 1 + 1 by omega]
    simpa [prVs] using ih
/-- What a function that hands back a list of pairs and a code says. -/
def RetPairs2 (B : Nat) (w' : World) (e : Ending) (l : List (ByteArray × ByteArray)) (c : Int) : Prop := ∃ A cap, e = .returned (.tuple #[.slice A l.length cap, .int .i64 c]) ∧ PairsAt w' A l ∧ (∀ p, A = some p → B ≤ p.block) ∧ l.length ≤ cap
theorem PairsAt.nil_ (w : World) (A : Option Addr) : PairsAt w A [] := fun i h => absurd h (by simp)
theorem RetPairs2.own {w : World} {base e n : Nat} {v : Value} {l : List (ByteArray × ByteArray)} {c : Int} (h : w.ownsRow base e 2 v n (prVs l)) (hn : l.length = n) : RetPairs2 base w (.returned (.tuple #[v, .int .i64 c])) l c := by
  rcases h.2 with ⟨rfl, rfl⟩ | ⟨g, cap, cur, rfl, hg, _, hnc, _⟩
  · have : l = [] := List.eq_nil_of_length_eq_zero hn
    subst this
    exact ⟨none, 0, rfl, PairsAt.nil_ _ _, (fun p h => by cases h), Nat.le_refl _⟩
  · subst hn
    refine ⟨_, cap, rfl, ?_, (fun p h => by cases h; exact hg), hnc⟩
    intro i hi
    obtain ⟨h1, h2⟩ := prVs_at l i hi
    exact ⟨g, 0, rfl, by rw [Nat.zero_add, h.cellAt (i * 2) (by omega), h1], by rw [Nat.zero_add, h.cellAt (i * 2 + 1) (by omega), h2]⟩
end Go.Proofs.YtnkblimmlkidcaaDoor
