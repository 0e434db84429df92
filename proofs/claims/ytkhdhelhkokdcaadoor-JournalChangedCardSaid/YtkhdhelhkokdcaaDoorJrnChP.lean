/- Plain: bytes of a record of which one byte of the record is replaced are no record. -/
import Derived.Test.YtkhdhelhkokdcaaDoorJrnDecP
import Derived.Test.YtkhdhelhkokdcaaDoorDigBack
namespace Go.Proofs.YtkhdhelhkokdcaaDoor
open Go.RowKit

theorem text_one (p q : ByteArray) (a b : UInt8) (h : textS (p ++ ⟨#[a]⟩ ++ q) = textS (p ++ ⟨#[b]⟩ ++ q)) : a = b := by
  have h1 := sumS_range (p ++ ⟨#[a]⟩ ++ q)
  have h2 := sumS_range (p ++ ⟨#[b]⟩ ++ q)
  have e1 := (readhex_hex _ h1.1 h1.2).1
  have e2 := (readhex_hex _ h2.1 h2.2).1
  have h' : hexS (sumS (p ++ ⟨#[a]⟩ ++ q)) = hexS (sumS (p ++ ⟨#[b]⟩ ++ q)) := by unfold textS at h; exact h
  have : sumS (p ++ ⟨#[a]⟩ ++ q) = sumS (p ++ ⟨#[b]⟩ ++ q) := by
    rw [← e1, ← e2, h']
  exact (sumS_one p q a b).1 this
/-- The changed bytes. -/
theorem changed_none {p q E : ByteArray} {a b : UInt8} (hab : a ≠ b)
    (hE : E.data.toList = Lib.decDigits (p ++ ⟨#[a]⟩ ++ q).size ++ 58 :: ((p ++ ⟨#[b]⟩ ++ q).data.toList ++ ((textS (p ++ ⟨#[a]⟩ ++ q)).data.toList ++ [10]))) : firstO E = none := by
  rw [firstO_none]
  intro r hg
  obtain ⟨x, hx⟩ := good_split hg
  rw [hE] at hx
  obtain ⟨h1, h2⟩ := split_first (dec_nocolon _) (dec_nocolon _) hx
  have hs := dec_inj h1
  have hsz : (p ++ ⟨#[b]⟩ ++ q).size = (p ++ ⟨#[a]⟩ ++ q).size := by
    simp only [ByteArray.size_append]; rfl
  have hl : (p ++ ⟨#[b]⟩ ++ q).data.toList.length = r.data.toList.length := by
    have e1 : (p ++ ⟨#[b]⟩ ++ q).data.toList.length = (p ++ ⟨#[b]⟩ ++ q).size := Array.length_toList
    have e2 : r.data.toList.length = r.size := by simp
    omega
  have h3 := List.append_inj_left h2 hl
  have h4 := List.append_inj_right h2 hl
  have hr : r = p ++ ⟨#[b]⟩ ++ q := (ByteArray.ext (Array.toList_inj.1 h3)).symm
  subst hr
  have ht : (textS (p ++ ⟨#[a]⟩ ++ q)).data.toList = (textS (p ++ ⟨#[b]⟩ ++ q)).data.toList := by
    refine List.append_inj_left (t₁ := [10]) (t₂ := 10 :: x) h4 ?_
    have e1 := textS_size (p ++ ⟨#[a]⟩ ++ q)
    have e2 := textS_size (p ++ ⟨#[b]⟩ ++ q)
    have e3 : (textS (p ++ ⟨#[a]⟩ ++ q)).data.toList.length = (textS (p ++ ⟨#[a]⟩ ++ q)).size := by simp
    have e4 : (textS (p ++ ⟨#[b]⟩ ++ q)).data.toList.length = (textS (p ++ ⟨#[b]⟩ ++ q)).size := by simp
    omega
  exact hab (text_one p q a b (ByteArray.ext (Array.toList_inj.1 ht)))
theorem changed_dec {E : ByteArray} {l : List ByteArray} {n : Nat} (h : firstO E = none) (hd : Dec E l n) : l = [] ∧ n = 0 := by
  have h0 : Dec E [] 0 := ⟨Nat.zero_le _, by simp [encL], fun r hr => by simp at hr, by
    have e : E.extract 0 E.size = E := by
      apply ByteArray.ext; apply Array.toList_inj.1
      rw [ext_front, List.take_of_length_le (by simp)]
    rw [e]; exact h⟩
  exact hd.one h0
end Go.Proofs.YtkhdhelhkokdcaaDoor
