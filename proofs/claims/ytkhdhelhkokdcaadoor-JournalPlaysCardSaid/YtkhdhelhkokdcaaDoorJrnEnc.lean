/- journal.Encode and its reference. -/
import Derived.Test.YtkhdhelhkokdcaaDoorDigMac
import Derived.Test.YtkhdhelhkokdcaaDoorCodRefInt
namespace Go.Proofs.YtkhdhelhkokdcaaDoor
open Go.RowKit

/-- The bytes of a record. -/
def encS (r : ByteArray) : ByteArray := itoaS r.size ++ ⟨#[58]⟩ ++ r ++ textS r ++ ⟨#[10]⟩
theorem encS_size (r : ByteArray) : (encS r).size = (itoaS r.size).size + r.size + 18 := by
  have h1 : (⟨#[58]⟩ : ByteArray).size = 1 := rfl
  have h2 : (⟨#[10]⟩ : ByteArray).size = 1 := rfl
  simp only [encS, ByteArray.size_append, textS_size]; omega
set_option maxHeartbeats 1000000 in
theorem enc_any (r : ByteArray) (w : World) (hd : DigOk w) (hp : PowOk w) (hr : r.size ≤ 1000000) :
    Calls Tryd.prog 12 #[.string r] w fun e w' => e = .returned (.string (encS r)) ∧ Below w.heap.size w w' := by
  have hz := itoaS_size r.size (by omega) (by omega)
  have HI := Lib.hid (itoa_any r.size w (by omega) (by omega) hp)
  have ht := Nat.le_of_eq (textS_size r)
  go_enter Tryd.func12, Tryd.ntmps12
  go_wp2_with fail
  refine HI.out.mono ?_
  rintro e w1 ⟨rfl, hb1⟩
  go_wp2_with fail
  refine (text_any r _ (hd.below hb1) (by omega)).mono ?_
  rintro e w2 ⟨rfl, hb2⟩
  go_wp2_with fail
  go_ret
  exact ⟨rfl, bthen hb1 hb2⟩
set_option maxHeartbeats 1000000 in
theorem renc_any (r : ByteArray) (w : World) (hr : r.size ≤ 1000000) :
    Calls Tryd.prog 13 #[.string r] w fun e w' => e = .returned (.string (encS r)) ∧ Below w.heap.size w w' := by
  have hz := itoaS_size r.size (by omega) (by omega)
  have HI := Lib.hid (rint_any r.size w (by omega) (by omega))
  have ht := Nat.le_of_eq (textS_size r)
  go_enter Tryd.func13, Tryd.ntmps13
  go_wp2_with fail
  refine HI.out.mono ?_
  rintro e w1 ⟨rfl, hb1⟩
  go_wp2_with fail
  refine (rtext_any r _ (by omega)).mono ?_
  rintro e w2 ⟨rfl, rfl⟩
  go_wp2_with fail
  go_ret
  exact ⟨rfl, hb1⟩
end Go.Proofs.YtkhdhelhkokdcaaDoor
