/- Plain: what the chapter's examples need. -/
import Derived.Test.YtkhdhelhkokdcaaDoorJrnCrash0
import Derived.Test.YtkhdhelhkokdcaaDoorJrnDecP
namespace Go.Proofs.YtkhdhelhkokdcaaDoor
open Go.RowKit

theorem left_of {l m m' : List ByteArray} {d : Nat} {keep : Int} {x : List UInt8} (h : Left l d keep m') (hs : ((encB (l.drop d)).extract 0 (keepK (encB (l.drop d)).size keep)).data.toList = encL m ++ x) (hx : x.length < 19) (hm : ∀ r ∈ m, r.size ≤ 4096) : m' = m := by
  obtain ⟨n, hn⟩ := h
  exact (hn.one (dec_of hs hx hm)).1
theorem left_zero {l m' : List ByteArray} {d : Nat} {keep : Int} (h : Left l d keep m') (hk : keep ≤ 0) : m' = [] := by
  refine left_of (m := []) (x := []) h ?_ (by simp) (fun r hr => by simp at hr)
  have : keepK (encB (l.drop d)).size keep = 0 := by unfold keepK; omega
  rw [this]; simp [encL]
theorem textS_len (r : ByteArray) : (textS r).data.toList.length = 16 := by
  have := textS_size r
  simpa using this
theorem encS_list (r : ByteArray) : (encS r).data.toList.length = (encS r).size := by simp
/-- A record of one byte, of two bytes. -/
theorem enc_one (a : UInt8) : (encS ⟨#[a]⟩).size = 20 := by
  rw [encS_size]; rw [show (itoaS ((⟨#[a]⟩ : ByteArray).size : Int)).size = 1 by rw [show ((⟨#[a]⟩ : ByteArray).size : Int) = 1 from rfl]; decide +kernel]; rfl
theorem enc_two (a b : UInt8) : (encS ⟨#[a, b]⟩).size = 21 := by
  rw [encS_size]; rw [show (itoaS ((⟨#[a, b]⟩ : ByteArray).size : Int)).size = 1 by rw [show ((⟨#[a, b]⟩ : ByteArray).size : Int) = 2 from rfl]; decide +kernel]; rfl
/-- The first crash: one record is whole, four bytes of the next one are left. -/
theorem aw_left {m : List ByteArray} (h : Left [⟨#[97, 98]⟩, ⟨#[99]⟩] 0 25 m) : m = [⟨#[97, 98]⟩] := by
  refine left_of (x := ((encS ⟨#[99]⟩).data.toList).take 4) h ?_ (by simp; omega) (fun r hr => by rw [List.mem_singleton] at hr; subst hr; decide)
  have h21 := enc_two 97 98
  have h20 := enc_one 99
  have e : encL [⟨#[97, 98]⟩, ⟨#[99]⟩] = (encS ⟨#[97, 98]⟩).data.toList ++ (encS ⟨#[99]⟩).data.toList := by simp [encL]
  have hz : (encB ([⟨#[97, 98]⟩, ⟨#[99]⟩] : List ByteArray)).size = 41 := by
    rw [encB_size, e, List.length_append, encS_list, encS_list, h21, h20]
  rw [List.drop_zero, hz, show keepK 41 25 = 25 by decide, ext_front, encB_list, e, List.take_append, encS_list, h21, List.take_of_length_le (by rw [encS_list, h21]; omega)]
  simp [encL]
end Go.Proofs.YtkhdhelhkokdcaaDoor
