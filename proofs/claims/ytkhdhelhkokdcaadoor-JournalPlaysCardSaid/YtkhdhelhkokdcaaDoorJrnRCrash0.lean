/- The reference's Crash: what it leaves. -/
import Derived.Test.YtkhdhelhkokdcaaDoorJrnCrash0
import Derived.Test.YtkhdhelhkokdcaaDoorJrnRecR
namespace Go.Proofs.YtkhdhelhkokdcaaDoor
open Go.RowKit

def CrashR (w : World) (B g : Nat) (l : List ByteArray) (d : Nat) (keep : Int) (w' : World) : Prop := ∃ m v', Left l d keep m ∧ RSt w' B g v' (l.take d ++ m) (l.take d ++ m).length ∧ Only w w' g none ∧ ∀ i, v'.ownBlock = some i → w.heap.size ≤ i
theorem keep_max2 (n : Nat) (keep : Int) : max 0 (min keep (n : Int)) = (keepK n keep : Int) := by unfold keepK; omega
/-- The reference's block when the crash is over. -/
theorem crashr_of {w w3 : World} {B g d : Nat} {v v' : Value} {l m : List ByteArray} {keep : Int} (hBg : B ≤ g) (hgw : g < w.heap.size) (hB : B ≤ w.heap.size) (hb : Below w.heap.size w w3) (hk3 : w3.heap[g]? = some (.cells #[.bool true, v, .int .i64 d] 62 (0, 0))) (hL : Left l d keep m)
    (hz : ∀ x ∈ l.take d ++ m, x.size ≤ 4096) (hrec : w3.ownsRow w.heap.size 9 1 v' (l.take d ++ m).length (strVs (l.take d ++ m))) :
    CrashR w B g l d keep ((w3.setCell ⟨g, 1, none⟩ v').setCell ⟨g, 2, none⟩ (.int .i64 (l.take d ++ m).length)) := by
  have hfr : ∀ i, v'.ownBlock = some i → w.heap.size ≤ i := fun i hi => (hrec.lt i hi).1
  have ho : ∀ i, v'.ownBlock = some i → i ≠ g := fun i hi e => by have := hfr i hi; omega
  refine ⟨m, v', hL, ⟨⟨hBg, ?_, .inl ?_, fun e => ho g e rfl⟩, Nat.le_refl _, hz⟩, ((Only.of_below hb g none).setCell 1 v').setCell 2 _, hfr⟩
  · rw [blk_set (blk_set hk3 1 v')]; rfl
  · exact (own_keep hrec (fun i hi => by
      rw [Below.heap_setCell _ ⟨g, 2, none⟩ _ i (ho i hi), Below.heap_setCell _ ⟨g, 1, none⟩ _ i (ho i hi)])).mono hB
theorem own_room {w : World} {base e g n cap : Nat} {size : Nat} {xs : List Value} (h : w.ownsRow base e size (.slice (some ⟨g, 0, none⟩) n cap) n xs) : n ≤ cap := by
  rcases h.2 with ⟨h0, _⟩ | ⟨g', cap', cur, hv, _, _, hnc, _⟩
  · cases h0
  · injection hv with _ _ hv; omega
theorem CrashR.drew {w w' : World} {B g d : Nat} {l : List ByteArray} {keep : Int} (h : CrashR w B g l d keep w') : CrashR w B g l d keep w'.drew := by
  obtain ⟨m, v', h1, h2, h3, h4⟩ := h
  exact ⟨m, v', h1, h2, ⟨h3.os, h3.tape, h3.output, h3.size, h3.block⟩, h4⟩
end Go.Proofs.YtkhdhelhkokdcaaDoor
