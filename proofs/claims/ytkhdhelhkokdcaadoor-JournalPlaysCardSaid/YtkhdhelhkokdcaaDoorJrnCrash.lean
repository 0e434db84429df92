/- (*journal.Journal).Crash. -/
import Derived.Test.YtkhdhelhkokdcaaDoorJrnCrashN
import Derived.Test.YtkhdhelhkokdcaaDoorJrnCrashF
import Derived.Test.YtkhdhelhkokdcaaDoorJrnCrashC
namespace Go.Proofs.YtkhdhelhkokdcaaDoor
open Go.RowKit
theorem jcrash_any (keep : Int) (w : World) (hd : DigOk w) (hp : PowOk w) (hE : ErrsOk w) (B g d : Nat) (v : Value) (l : List ByteArray) (h : JSt w B g v l d) (hB : B ≤ w.heap.size) (hl : l.length ≤ 200) :
    Calls Tryd.prog 29 #[.pointer (some ⟨g, 0, none⟩), .int .i64 keep] w fun e w' => e = .returned (.tuple #[]) ∧ CrashJ w B g v l d keep w' := by
  obtain ⟨⟨hBg, hblk, hrec, hne⟩, hdl, hz⟩ := h
  obtain ⟨A, cap, hv, hs, hcap, hA, hA0⟩ := hrec.strs
  rcases A with _ | p
  · obtain rfl := hA0 rfl
    obtain rfl : d = 0 := by simpa using hdl
    have hv0 : v = .slice none 0 0 := by
      rcases hrec with h | ⟨b, _, _, hb, _⟩
      · rcases h.2 with ⟨h, _⟩ | ⟨g', cap', cur, hv', _⟩
        · exact h
        · rw [hv'] at hv; injection hv with hv; cases hv
      · rw [hb] at hv; injection hv with hv; cases hv
    subst hv0
    exact jcrash_n keep w hd hp hE B g hBg hblk hB
  · obtain ⟨b, rfl, hbo⟩ := hA p rfl
    have hrb := hrec.block b hbo
    have hbg : b ≠ g := fun e => hne (by rw [hbo, e])
    by_cases hcd : cap = d
    · have hld : l.length = d := by omega
      have hvv : v = .slice (some ⟨b, 0, none⟩) d d := by rw [hv, hld, hcd]
      subst hvv
      exact jcrash_f keep w hd hp hE B g d b l hld hBg hblk hB hrb hbg hs hdl hl hz
    · subst hv
      exact jcrash_c keep w hd hp hE B g d b cap l hcap (by omega) hBg hblk hB hrb hbg hs hdl hl hz
end Go.Proofs.YtkhdhelhkokdcaaDoor
