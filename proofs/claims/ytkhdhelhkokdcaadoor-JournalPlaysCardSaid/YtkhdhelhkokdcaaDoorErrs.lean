/- What the variables of strconv hold. -/
import Derived.Test.YtkhdhelhkokdcaaDoorDigMac
namespace Go.Proofs.YtkhdhelhkokdcaaDoor
open Go.RowKit

/-- What the variables of strconv hold. -/
def ErrsOk (w : World) : Prop := (∃ t p, w.var? Tryd.prog "strconv.ErrSyntax" = some #[.iface t p]) ∧ (∃ t p, w.var? Tryd.prog "strconv.ErrRange" = some #[.iface t p]) ∧ 2 < w.heap.size ∧ 3 < w.heap.size
theorem ErrsOk.below {w w' : World} (h : ErrsOk w) (hb : Below w.heap.size w w') : ErrsOk w' := by
  obtain ⟨⟨t, p, h1⟩, ⟨t', p', h2⟩, l1, l2⟩ := h
  exact ⟨⟨t, p, var?_below hb (by kernel_rfl) l1 h1⟩, ⟨t', p', var?_below hb (by kernel_rfl) l2 h2⟩, Nat.lt_of_lt_of_le l1 hb.size, Nat.lt_of_lt_of_le l2 hb.size⟩
end Go.Proofs.YtkhdhelhkokdcaaDoor
