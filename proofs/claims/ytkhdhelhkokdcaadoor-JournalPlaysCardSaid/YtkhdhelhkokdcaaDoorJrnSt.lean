/- A journal in memory: what stands in its block, and what a call may change. -/
import Derived.Test.YtkhdhelhkokdcaaDoorJrnBytes
import Derived.Maps.AppendAt
import Derived.ArgAppend
import Derived.Deep.Onto
namespace Go.Proofs.YtkhdhelhkokdcaaDoor
open Go.RowKit

/-- Among what was, only block g and block b may have changed. -/
structure Only (w w' : World) (g : Nat) (b : Option Nat) : Prop where
  os : w'.os = w.os
  tape : w'.tape = w.tape
  output : w'.output = w.output
  size : w.heap.size ≤ w'.heap.size
  block : ∀ i, i < w.heap.size → i ≠ g → b ≠ some i → w'.heap[i]? = w.heap[i]?
theorem Only.refl (w : World) (g : Nat) (b : Option Nat) : Only w w g b := ⟨rfl, rfl, rfl, Nat.le_refl _, fun _ _ _ _ => rfl⟩
theorem Only.of_below {w w' : World} (h : Below w.heap.size w w') (g : Nat) (b : Option Nat) : Only w w' g b := ⟨h.os, h.tape, h.output, h.size, fun i hi _ _ => h.block i hi⟩
theorem Only.of_grown {w w' : World} {b : Option Nat} (h : w.grownBy w' b) (g : Nat) : Only w w' g b := ⟨h.os, h.tape, h.output, h.size, fun i hi _ hb => h.block i hi (fun e => hb e.symm)⟩
theorem Only.trans {w w1 w2 : World} {g : Nat} {b b' : Option Nat} (h1 : Only w w1 g b) (h2 : Only w1 w2 g b') (hb : b' = b ∨ ∀ i, b' = some i → w.heap.size ≤ i) : Only w w2 g b :=
  ⟨h2.os.trans h1.os, h2.tape.trans h1.tape, h2.output.trans h1.output, Nat.le_trans h1.size h2.size, fun i hi hg hbi => by
    refine (h2.block i (Nat.lt_of_lt_of_le hi h1.size) hg ?_).trans (h1.block i hi hg hbi)
    rcases hb with rfl | hb
    · exact hbi
    · intro e; have := hb i e; omega⟩
theorem Only.setCell {w w' : World} {g : Nat} {b : Option Nat} (h : Only w w' g b) (o : Nat) (u : Value) : Only w (w'.setCell ⟨g, o, none⟩ u) g b :=
  ⟨h.os, h.tape, h.output, by simpa [World.setCell] using h.size, fun i hi hg hb => (Below.heap_setCell w' ⟨g, o, none⟩ u i hg).trans (h.block i hi hg hb)⟩
theorem Only.below {B : Nat} {w w' : World} {g : Nat} {b : Option Nat} (h : Only w w' g b) (hB : B ≤ w.heap.size) (hg : B ≤ g) (hb : ∀ i, b = some i → B ≤ i) : Below B w w' :=
  ⟨h.os, h.tape, h.output, h.size, fun i hi => h.block i (by omega) (by omega) (fun e => by have := hb i e; omega)⟩
theorem blk_set {w : World} {g : Nat} {t : TypeId} {cs : Array Value} (h : w.heap[g]? = some (.cells cs t (0, 0))) (i : Nat) (u : Value) : (w.setCell ⟨g, i, none⟩ u).heap[g]? = some (.cells (cs.setIfInBounds i u) t (0, 0)) := by
  simp [World.setCell, Array.getElem?_modify, h]
theorem blk_cell {w : World} {g : Nat} {t : TypeId} {cs : Array Value} (h : w.heap[g]? = some (.cells cs t (0, 0))) (i : Nat) : w.cell? ⟨g, i, none⟩ = cs[i]? := cell_of_row w g i cs t (0, 0) h
theorem blk_frozen {w : World} {g : Nat} {t : TypeId} {cs : Array Value} (h : w.heap[g]? = some (.cells cs t (0, 0))) (i : Nat) : w.frozen? ⟨g, i, none⟩ = false := by simp [World.frozen?, h]
theorem blk_lt {w : World} {g : Nat} {o : Obj} (h : w.heap[g]? = some o) : g < w.heap.size := (Array.getElem?_eq_some_iff.1 h).1
theorem own_keep {w w' : World} {base : Nat} {e : TypeId} {size n : Nat} {v : Value} {xs : List Value} (h : w.ownsRow base e size v n xs) (hk : ∀ i, v.ownBlock = some i → w'.heap[i]? = w.heap[i]?) : w'.ownsRow base e size v n xs := by
  refine ⟨h.1, ?_⟩
  rcases h.2 with hn | ⟨g, cap, cur, rfl, hg, hh, rest⟩
  · exact .inl hn
  · exact .inr ⟨g, cap, cur, rfl, hg, (hk g rfl).trans hh, rest⟩
/-- A slice value that holds records of the call's own: a row that may be written behind its end, or one that is full. -/
def Rec (w : World) (B : Nat) (v : Value) (l : List ByteArray) : Prop :=
  w.ownsRow B 9 1 v l.length (strVs l) ∨ ∃ b, B ≤ b ∧ b < w.heap.size ∧ v = .slice (some ⟨b, 0, none⟩) l.length l.length ∧ Strs w (some ⟨b, 0, none⟩) l
theorem Rec.block {w : World} {B : Nat} {v : Value} {l : List ByteArray} (h : Rec w B v l) : ∀ i, v.ownBlock = some i → B ≤ i ∧ i < w.heap.size := by
  rcases h with h | ⟨b, h1, h2, rfl, _⟩
  · exact h.lt
  · intro i hi
    have : b = i := by simpa [Value.ownBlock] using hi
    omega
theorem Rec.strs {w : World} {B : Nat} {v : Value} {l : List ByteArray} (h : Rec w B v l) : ∃ A cap, v = .slice A l.length cap ∧ Strs w A l ∧ l.length ≤ cap ∧ (∀ p, A = some p → ∃ b, p = ⟨b, 0, none⟩ ∧ v.ownBlock = some b) ∧ (A = none → l = []) := by
  rcases h with h | ⟨b, h1, h2, rfl, h3⟩
  · rcases h.2 with ⟨rfl, h0⟩ | ⟨g, cap, cur, rfl, hg, _, hnc, _⟩
    · have : l = [] := List.eq_nil_of_length_eq_zero h0
      subst this
      exact ⟨none, 0, rfl, Strs.nil_ _ _, Nat.le_refl _, (fun p hp => by cases hp), fun _ => rfl⟩
    · exact ⟨_, cap, rfl, Strs.own h rfl (strVs_at l), hnc, (fun p hp => by cases hp; exact ⟨g, rfl, rfl⟩), (fun hp => by cases hp)⟩
  · exact ⟨_, _, rfl, h3, Nat.le_refl _, (fun p hp => by cases hp; exact ⟨b, rfl, rfl⟩), (fun hp => by cases hp)⟩
theorem Rec.keep {w w' : World} {B : Nat} {v : Value} {l : List ByteArray} (h : Rec w B v l) (hs : w.heap.size ≤ w'.heap.size) (hk : ∀ i, v.ownBlock = some i → w'.heap[i]? = w.heap[i]?) : Rec w' B v l := by
  rcases h with h | ⟨b, h1, h2, rfl, h3⟩
  · exact .inl (own_keep h hk)
  · refine .inr ⟨b, h1, by omega, rfl, fun i hi => ?_⟩
    obtain ⟨b', o', e, hc⟩ := h3 i hi
    refine ⟨b', o', e, ?_⟩
    injection e with e; injection e with e1 e2
    rw [← hc]
    refine World.cell?_of_block ?_
    subst e1
    exact hk _ rfl
/-- A journal's block g (of type T, its cells cs), whose records v are l. -/
def St (w : World) (B g : Nat) (T : TypeId) (cs : Array Value) (v : Value) (l : List ByteArray) : Prop :=
  B ≤ g ∧ w.heap[g]? = some (.cells cs T (0, 0)) ∧ Rec w B v l ∧ v.ownBlock ≠ some g
theorem St.only {w w' : World} {B g : Nat} {T : TypeId} {cs : Array Value} {v : Value} {l : List ByteArray} (h : St w B g T cs v l) {g' : Nat} {b' : Option Nat} (ho : Only w w' g' b') (hg : g ≠ g') (hb : b' ≠ some g) (hv : v.ownBlock ≠ some g') (hr : ∀ i, v.ownBlock = some i → b' ≠ some i) : St w' B g T cs v l := by
  obtain ⟨h1, h2, h3, h4⟩ := h
  refine ⟨h1, (ho.block g (blk_lt h2) hg hb).trans h2, h3.keep ho.size (fun i hi => ho.block i (h3.block i hi).2 (fun e => hv (by rw [hi, e])) (hr i hi)), h4⟩
theorem St.below {w w' : World} {B g : Nat} {T : TypeId} {cs : Array Value} {v : Value} {l : List ByteArray} (h : St w B g T cs v l) (hb : Below w.heap.size w w') : St w' B g T cs v l := by
  obtain ⟨h1, h2, h3, h4⟩ := h
  exact ⟨h1, (hb.block g (blk_lt h2)).trans h2, h3.keep hb.size (fun i hi => hb.block i (h3.block i hi).2), h4⟩
/-- The program's journal and the reference's. -/
def JSt (w : World) (B g : Nat) (v : Value) (l : List ByteArray) (d : Nat) : Prop := St w B g 60 #[v, .int .i64 d, .bool true] v l ∧ d ≤ l.length ∧ ∀ r ∈ l, r.size ≤ 4096
def RSt (w : World) (B g : Nat) (v : Value) (l : List ByteArray) (d : Nat) : Prop := St w B g 62 #[.bool true, v, .int .i64 d] v l ∧ d ≤ l.length ∧ ∀ r ∈ l, r.size ≤ 4096
theorem JSt.below {w w' : World} {B g d : Nat} {v : Value} {l : List ByteArray} (h : JSt w B g v l d) (hb : Below w.heap.size w w') : JSt w' B g v l d := ⟨h.1.below hb, h.2⟩
theorem RSt.below {w w' : World} {B g d : Nat} {v : Value} {l : List ByteArray} (h : RSt w B g v l d) (hb : Below w.heap.size w w') : RSt w' B g v l d := ⟨h.1.below hb, h.2⟩
/-- The row is as it was, or new, or none. -/
def Fresh (w : World) (v v' : Value) : Prop := v'.ownBlock = v.ownBlock ∨ ∀ i, v'.ownBlock = some i → w.heap.size ≤ i
/-- What an Append that succeeds leaves. -/
def AppJ (w : World) (B g : Nat) (v : Value) (l : List ByteArray) (d : Nat) (w' : World) : Prop := ∃ v', JSt w' B g v' l d ∧ Only w w' g v.ownBlock ∧ Fresh w v v'
def AppR (w : World) (B g : Nat) (l : List ByteArray) (d : Nat) (w' : World) : Prop := ∃ v', RSt w' B g v' l d ∧ Only w w' g none ∧ ∀ i, v'.ownBlock = some i → w.heap.size ≤ i
end Go.Proofs.YtkhdhelhkokdcaaDoor
