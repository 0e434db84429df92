/- Two journals beside each other: the program's and the reference's. -/
import Derived.Test.YtkhdhelhkokdcaaDoorJrnDo
namespace Go.Proofs.YtkhdhelhkokdcaaDoor
open Go.RowKit

/-- They share no block. -/
def Beside (g : Nat) (v : Value) (g2 : Nat) (v2 : Value) : Prop := g ≠ g2 ∧ v.ownBlock ≠ some g2 ∧ v2.ownBlock ≠ some g ∧ ∀ i, v.ownBlock = some i → v2.ownBlock ≠ some i
def Two (w0 w : World) (g : Nat) (v : Value) (l : List ByteArray) (d : Nat) (g2 : Nat) (v2 : Value) (l2 : List ByteArray) (d2 : Nat) : Prop :=
  AJ w0 w g v l d ∧ RSt w w0.heap.size g2 v2 l2 d2 ∧ Beside g v g2 v2
theorem Two.below {w0 w w' : World} {g d g2 d2 : Nat} {v v2 : Value} {l l2 : List ByteArray} (h : Two w0 w g v l d g2 v2 l2 d2) (hb : Below w.heap.size w w') : Two w0 w' g v l d g2 v2 l2 d2 := ⟨h.1.below hb, h.2.1.below hb, h.2.2⟩
theorem Moved.own {w w' : World} {g g' : Nat} {v v' : Value} (h : Moved w w' g v g' v') {i : Nat} (hi : i < w.heap.size) (hv : v.ownBlock ≠ some i) : v'.ownBlock ≠ some i := h.2.2.ne hi hv
/-- The program's journal moves. -/
theorem Two.do {w0 w w' : World} {g d g2 d2 g' d' : Nat} {v v2 v' : Value} {l l2 l' : List ByteArray} (h : Two w0 w g v l d g2 v2 l2 d2) (hj : AJ w0 w' g' v' l' d') (hm : Moved w w' g v g' v') : Two w0 w' g' v' l' d' g2 v2 l2 d2 := by
  obtain ⟨h1, h2, hg, hvg, hv2, hvv⟩ := h
  have hlt := blk_lt h2.1.2.1
  refine ⟨hj, ⟨h2.1.only hm.1 (fun e => hg e.symm) hvg hv2 (fun i hi e => hvv i e hi), h2.2⟩, ?_, hm.own hlt hvg, ?_, fun i hi e => ?_⟩
  · rcases hm.2.1 with rfl | h
    · exact hg
    · omega
  · rcases hm.2.1 with rfl | h
    · exact hv2
    · intro e; have := (h2.1.2.2.1.block _ e).2; omega
  · exact hm.own (h2.1.2.2.1.block _ e).2 (fun e2 => hvv i e2 e) hi
/-- The reference's journal moves. -/
theorem Two.done {w0 w w' : World} {g d g2 d2 g' d' : Nat} {v v2 v' : Value} {l l2 l' : List ByteArray} (h : Two w0 w g v l d g2 v2 l2 d2) (hj : RSt w' w0.heap.size g' v' l' d') (hm : Moved w w' g2 v2 g' v') : Two w0 w' g v l d g' v' l' d' := by
  obtain ⟨h1, h2, hg, hvg, hv2, hvv⟩ := h
  have hlt := blk_lt h1.1.1.2.1
  refine ⟨⟨⟨h1.1.1.only hm.1 hg hv2 hvg hvv, h1.1.2⟩, h1.2.trans (hm.1.below h1.le h2.1.1 (fun i hi => (h2.1.2.2.1.block i hi).1))⟩, hj, ?_, ?_, hm.own hlt hv2, fun i hi => ?_⟩
  · rcases hm.2.1 with rfl | h
    · exact hg
    · omega
  · rcases hm.2.1 with rfl | h
    · exact hvg
    · intro e; have := (h1.1.1.2.2.1.block _ e).2; omega
  · exact hm.own (h1.1.1.2.2.1.block _ hi).2 (hvv i hi)
theorem Two.new {w0 w w' : World} {g d g2 d2 : Nat} {v v2 : Value} {l l2 : List ByteArray} (h : AJ w0 w g v l d) (h2 : RSt w' w.heap.size g2 v2 l2 d2) (hb : Below w.heap.size w w') : Two w0 w' g v l d g2 v2 l2 d2 := by
  have hlt := blk_lt h.1.1.2.1
  refine ⟨h.below hb, h2.mono h.le, ?_, ?_, ?_, ?_⟩
  · have := h2.1.1; omega
  · intro e; have := (h.1.1.2.2.1.block _ e).2; have := h2.1.1; omega
  · intro e; have := (h2.1.2.2.1.block _ e).1; omega
  · intro i hi e
    have := (h.1.1.2.2.1.block _ hi).2
    have := (h2.1.2.2.1.block _ e).1
    omega
end Go.Proofs.YtkhdhelhkokdcaaDoor
