/- A slice that reads as a list of strings. -/
import Derived.Test.YtkhdhelhkokdcaaDoorKit
import Derived.Laws.OwnMore
namespace Go.Proofs.YtkhdhelhkokdcaaDoor
open Go.RowKit

/-- A slice's address reads as a list of strings. -/
def Strs (w : World) (A : Option Addr) (l : List ByteArray) : Prop :=
  ∀ i, (h : i < l.length) → ∃ b o, A = some ⟨b, o, none⟩ ∧ w.cell? ⟨b, o + i, none⟩ = some (.string l[i])
theorem Strs.below {w w' : World} {A : Option Addr} {l : List ByteArray} (h : Strs w A l) (hb : Below w.heap.size w w') : Strs w' A l := by
  intro i hi
  obtain ⟨b, o, e, hc⟩ := h i hi
  exact ⟨b, o, e, (hb.cell (World.block_lt_of_cell? w _ hc)).trans hc⟩
theorem Strs.nil_ (w : World) (A : Option Addr) : Strs w A [] := fun i h => absurd h (by simp)
/-- What a function that hands back a list of strings says. -/
def RetStrs (B : Nat) (w' : World) (e : Ending) (l : List ByteArray) : Prop := ∃ A cap, e = .returned (.slice A l.length cap) ∧ Strs w' A l ∧ ∀ p, A = some p → B ≤ p.block
theorem Strs.own {w : World} {base e g n cap : Nat} {xs : List Value} {l : List ByteArray} (h : w.ownsRow base e 1 (.slice (some ⟨g, 0, none⟩) n cap) n xs) (hn : n = l.length)
    (hx : ∀ j, (h : j < l.length) → xs[j]? = some (.string l[j])) : Strs w (some ⟨g, 0, none⟩) l := by
  intro i hi
  refine ⟨g, 0, rfl, ?_⟩
  rw [Nat.zero_add, h.cellAt i (by omega), hx i hi]

theorem RetStrs.own {w : World} {base e n : Nat} {v : Value} {xs : List Value} {l : List ByteArray} (h : w.ownsRow base e 1 v n xs) (hn : l.length = n)
    (hx : ∀ j, (h : j < l.length) → xs[j]? = some (.string l[j])) : RetStrs base w (.returned v) l := by
  rcases h.2 with ⟨rfl, rfl⟩ | ⟨g, cap, cur, rfl, hg, _⟩
  · have : l = [] := List.eq_nil_of_length_eq_zero hn
    subst this
    exact ⟨none, 0, rfl, Strs.nil_ _ _, fun p h => by cases h⟩
  · subst hn
    exact ⟨_, cap, rfl, Strs.own h rfl hx, fun p h => by cases h; exact hg⟩
theorem Strs.drew {w : World} {A : Option Addr} {l : List ByteArray} (h : Strs w A l) : Strs w.drew A l := h
theorem strs_take {w : World} {A : Option Addr} {l : List ByteArray} (h : Strs w A l) (k : Nat) : Strs w A (l.take k) := by
  intro i hi
  obtain ⟨b, o, e, hc⟩ := h i (by simp at hi; omega)
  exact ⟨b, o, e, by simpa using hc⟩
/-- The first k cells of a row hold the first k strings of a list. -/
def Done (xs : List Value) (l : List ByteArray) (k : Nat) : Prop := ∀ j, (h : j < l.length) → j < k → xs[j]? = some (.string l[j])
theorem Done.zero (xs : List Value) (l : List ByteArray) : Done xs l 0 := fun j _ h => absurd h (by omega)
theorem Done.set {xs : List Value} {l : List ByteArray} {k : Nat} (h : Done xs l k) (hx : k < xs.length) {v : Value} (hv : ∀ hl : k < l.length, v = .string l[k]) : Done (xs.set k v) l (k + 1) := by
  intro j hj hjk
  by_cases e : j = k
  · subst e
    rw [List.getElem?_set_self hx, hv hj]
  · rw [List.getElem?_set_ne (Ne.symm e)]
    exact h j hj (by omega)
theorem Tryd.info_s : (Tryd.prog.info? 9).map (fun i => (i.zero, i.size, i.bytes)) = some (some (.string ByteArray.empty), 1, 16) := by kernel_rfl
/-- A string as a value. -/
def strV (s : ByteArray) : Value := .string s
/-- The cells of a list of strings. -/
def strVs (l : List ByteArray) : List Value := l.map strV
theorem strVs_snoc (l : List ByteArray) (s : ByteArray) : strVs l ++ [strV s] = strVs (l ++ [s]) := by simp [strVs]
theorem strVs_at (l : List ByteArray) : ∀ j, (h : j < l.length) → (strVs l)[j]? = some (.string l[j]) := by
  intro j h
  simp [strVs, strV, h]
/-- What a function that hands back a list of strings and a code says. -/
def RetStrs2 (B : Nat) (w' : World) (e : Ending) (l : List ByteArray) (c : Int) : Prop := ∃ A cap, e = .returned (.tuple #[.slice A l.length cap, .int .i64 c]) ∧ Strs w' A l ∧ (∀ p, A = some p → B ≤ p.block) ∧ l.length ≤ cap
theorem RetStrs2.own {w : World} {base e n : Nat} {v : Value} {xs : List Value} {l : List ByteArray} {c : Int} (h : w.ownsRow base e 1 v n xs) (hn : l.length = n)
    (hx : ∀ j, (h : j < l.length) → xs[j]? = some (.string l[j])) : RetStrs2 base w (.returned (.tuple #[v, .int .i64 c])) l c := by
  rcases h.2 with ⟨rfl, rfl⟩ | ⟨g, cap, cur, rfl, hg, _, hnc, _⟩
  · have : l = [] := List.eq_nil_of_length_eq_zero hn
    subst this
    exact ⟨none, 0, rfl, Strs.nil_ _ _, (fun p h => by cases h), Nat.le_refl _⟩
  · subst hn
    exact ⟨_, cap, rfl, Strs.own h rfl hx, (fun p h => by cases h; exact hg), hnc⟩
/-- An append leaves a list alone that does not lie in the row. -/
theorem Strs.far {w w' : World} {A : Option Addr} {l : List ByteArray} {row : Option Nat} (h : Strs w A l) (hg : w.grownBy w' row) (hr : ∀ p g, A = some p → row = some g → p.block ≠ g) : Strs w' A l := by
  intro i hi
  obtain ⟨b, o, e, hc⟩ := h i hi
  refine ⟨b, o, e, ?_⟩
  have hb := World.block_lt_of_cell? w _ hc
  rw [← hc]
  refine World.cell?_of_block (hg.block b hb ?_)
  intro h
  exact hr _ b e h.symm rfl
theorem Strs.alloc {w : World} {A : Option Addr} {l : List ByteArray} (h : Strs w A l) (o : Obj) : Strs (w.alloc o) A l :=
  h.below ((Below.refl _ _).alloc (Nat.le_refl _) o)
end Go.Proofs.YtkhdhelhkokdcaaDoor
