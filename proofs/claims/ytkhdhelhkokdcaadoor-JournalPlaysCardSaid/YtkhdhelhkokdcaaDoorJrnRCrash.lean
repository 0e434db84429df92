/- (*identityref19.Journal).Crash. -/
import Derived.Test.YtkhdhelhkokdcaaDoorJrnRCrashA
import Derived.Test.YtkhdhelhkokdcaaDoorJrnRCrashB
import Derived.Test.YtkhdhelhkokdcaaDoorJrnRCrashC
import Derived.Test.YtkhdhelhkokdcaaDoorJrnRCrashN
namespace Go.Proofs.YtkhdhelhkokdcaaDoor
open Go.RowKit
theorem rcrash_any (keep : Int) (w : World) (B g d : Nat) (v : Value) (l : List ByteArray) (h : RSt w B g v l d) (hB : B ≤ w.heap.size) (hl : l.length ≤ 200) :
    Calls Tryd.prog 41 #[.pointer (some ⟨g, 0, none⟩), .int .i64 keep] w fun e w' => e = .returned (.tuple #[]) ∧ CrashR w B g l d keep w' := by
  obtain ⟨A, cap, hv, hs, hcap, hA, hA0⟩ := h.1.2.2.1.strs
  have hdl := h.2.1
  rcases A with _ | p
  · obtain rfl := hA0 rfl
    obtain rfl : d = 0 := by simpa using hdl
    have hv0 : v = .slice none 0 0 := by
      rcases h.1.2.2.1 with h | ⟨b, _, _, hb, _⟩
      · rcases h.2 with ⟨h, _⟩ | ⟨g', cap', cur, hv', _⟩
        · exact h
        · rw [hv'] at hv; injection hv with hv; cases hv
      · rw [hb] at hv; injection hv with hv; cases hv
    subst hv0
    exact rcrash_n keep w B g h hB
  · obtain ⟨b, rfl, hbo⟩ := hA p rfl
    by_cases hd0 : d = 0
    · subst hd0
      subst hv
      exact rcrash_z keep w B g b cap l h hcap hs hB hl
    · by_cases hcd : cap = d
      · have hld : l.length = d := by omega
        have hvv : v = .slice (some ⟨b, 0, none⟩) d d := by rw [hv, hld, hcd]
        subst hvv
        exact rcrash_b keep w B g d b l h hld hs hB hl (by omega)
      · subst hv
        exact rcrash_a keep w B g d b cap l h hcap hs hB hl (by omega) hcd
end Go.Proofs.YtkhdhelhkokdcaaDoor
