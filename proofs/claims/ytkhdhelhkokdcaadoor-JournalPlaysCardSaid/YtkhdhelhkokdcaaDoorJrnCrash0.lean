/- (*journal.Journal).Crash. -/
import Derived.Test.YtkhdhelhkokdcaaDoorJrnOpen
import Derived.Deep.RegionLawGrows
namespace Go.Proofs.YtkhdhelhkokdcaaDoor
open Go.RowKit

/-- How many bytes a crash keeps. -/
def keepK (n : Nat) (keep : Int) : Nat := min keep.toNat n
/-- What a crash leaves behind the durable records. -/
def Left (l : List ByteArray) (d : Nat) (keep : Int) (m : List ByteArray) : Prop := ∃ n, Dec ((encB (l.drop d)).extract 0 (keepK (encB (l.drop d)).size keep)) m n
def CrashJ (w : World) (B g : Nat) (v : Value) (l : List ByteArray) (d : Nat) (keep : Int) (w' : World) : Prop := ∃ m v', Left l d keep m ∧ JSt w' B g v' (l.take d ++ m) (l.take d ++ m).length ∧ Only w w' g none ∧ Fresh w v v'
theorem strs_drop {w : World} {b : Nat} {l : List ByteArray} (h : Strs w (some ⟨b, 0, none⟩) l) (d : Nat) : Strs w (some ⟨b, d, none⟩) (l.drop d) := by
  intro i hi
  obtain ⟨b', o', e, hc⟩ := h (d + i) (by simp at hi; omega)
  injection e with e; injection e with e1 e2
  subst e1; subst e2
  exact ⟨b, d, rfl, by rw [← Nat.zero_add (d + i)] ; simpa using hc⟩
theorem keep_min (n : Nat) (keep : Int) : min (max keep 0) (n : Int) = (keepK n keep : Int) := by unfold keepK; omega
theorem keep_le (n : Nat) (keep : Int) : keepK n keep ≤ n := by unfold keepK; omega
theorem small_take {l : List ByteArray} (d : Nat) (h : ∀ x ∈ l, x.size ≤ 4096) : ∀ x ∈ l.take d, x.size ≤ 4096 := fun x hx => h x (List.mem_of_mem_take hx)
theorem small_app {l m : List ByteArray} (h : ∀ x ∈ l, x.size ≤ 4096) (h2 : ∀ x ∈ m, x.size ≤ 4096) : ∀ x ∈ l ++ m, x.size ≤ 4096 := by
  intro x hx
  rw [List.mem_append] at hx
  exact hx.elim (h x) (h2 x)
theorem strVs_app (l m : List ByteArray) : strVs l ++ strVs m = strVs (l ++ m) := by simp [strVs]
/-- The journal's block when the crash is over. -/
theorem crash_of {w w3 : World} {B g d : Nat} {v v' : Value} {l m : List ByteArray} {keep : Int} (hBg : B ≤ g) (hb : Below w.heap.size w w3) (hk3 : w3.heap[g]? = some (.cells #[v, .int .i64 d, .bool true] 60 (0, 0))) (hL : Left l d keep m)
    (hz : ∀ x ∈ l.take d ++ m, x.size ≤ 4096) (hrec : Rec w3 B v' (l.take d ++ m)) (hne : v'.ownBlock ≠ some g) (hf : Fresh w v v') :
    CrashJ w B g v l d keep ((w3.setCell ⟨g, 0, none⟩ v').setCell ⟨g, 1, none⟩ (.int .i64 (l.take d ++ m).length)) := by
  have ho : ∀ i, v'.ownBlock = some i → i ≠ g := fun i hi e => hne (by rw [hi, e])
  refine ⟨m, v', hL, ⟨⟨hBg, ?_, ?_, hne⟩, Nat.le_refl _, hz⟩, ((Only.of_below hb g none).setCell 0 v').setCell 1 _, hf⟩
  · rw [blk_set (blk_set hk3 0 v')]; rfl
  · refine hrec.keep (by simp [World.setCell]) (fun i hi => ?_)
    rw [Below.heap_setCell _ ⟨g, 1, none⟩ _ i (ho i hi), Below.heap_setCell _ ⟨g, 0, none⟩ _ i (ho i hi)]
theorem CrashJ.drew {w w' : World} {B g d : Nat} {v : Value} {l : List ByteArray} {keep : Int} (h : CrashJ w B g v l d keep w') : CrashJ w B g v l d keep w'.drew := by
  obtain ⟨m, v', h1, h2, h3, h4⟩ := h
  exact ⟨m, v', h1, h2, ⟨h3.os, h3.tape, h3.output, h3.size, h3.block⟩, h4⟩
end Go.Proofs.YtkhdhelhkokdcaaDoor
