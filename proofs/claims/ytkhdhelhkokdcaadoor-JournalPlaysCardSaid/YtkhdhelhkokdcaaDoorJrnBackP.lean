/- Plain: the bytes of records, cut anywhere, are read as the first ones of these records. -/
import Derived.Test.YtkhdhelhkokdcaaDoorJrnBytes
import Derived.Test.YtkhdhelhkokdcaaDoorJrnDecP
namespace Go.Proofs.YtkhdhelhkokdcaaDoor
open Go.RowKit

theorem encL_app (a b : List ByteArray) : encL (a ++ b) = encL a ++ encL b := by simp [encL]
theorem back_whole {l m : List ByteArray} {n : Nat} (hl : ∀ r ∈ l, r.size ≤ 4096) (h : Dec (encB l) m n) : m = l ∧ n = (encB l).size := by
  have h2 := h.one (dec_of (l := l) (x := []) (by rw [encB_list, List.append_nil]) (by simp) hl)
  exact ⟨h2.1, by rw [encB_size]; exact h2.2⟩
theorem back_pre {l b : List ByteArray} {k m : Nat} (hl : ∀ r ∈ l, r.size ≤ 4096) (hk : k ≤ (encB l).size) (h : Dec ((encB l).extract 0 k) b m) : b <+: l ∧ m ≤ k ∧ (encB l).extract 0 m = encB b := by
  have hm : m ≤ k := by have := h.le; rw [ByteArray.size_extract] at this; omega
  have ht : (encL l).take m = encL b := by
    have := h.bytes
    rw [ext_front, encB_list, List.take_take, Nat.min_eq_left hm] at this
    exact this
  have hp : encL b <+: encL l := by rw [← ht]; exact List.take_prefix _ _
  refine ⟨?_, hm, ?_⟩
  · rcases pre_or h.small hl hp (List.prefix_refl _) with h1 | h1
    · exact h1
    · obtain ⟨x, rfl⟩ := h1
      have h2 := hp.length_le
      have h3 : encL (l ++ x) = encL l ++ encL x := by simp [encL]
      rw [h3, List.length_append] at h2
      have h4 := encL_len x
      have : x = [] := List.eq_nil_of_length_eq_zero (by omega)
      subst this
      simp
  · apply ByteArray.ext; apply Array.toList_inj.1
    rw [ext_front, encB_list, encB_list, ht]
theorem back_next {l b : List ByteArray} {k m : Nat} (hl : ∀ r ∈ l, r.size ≤ 4096) (hk : k ≤ (encB l).size) (h : Dec ((encB l).extract 0 k) b m) (hb : b.length < l.length) : k < m + (encS l[b.length]).size := by
  rcases Nat.lt_or_ge k (m + (encS l[b.length]).size) with h1 | h1
  · exact h1
  · exfalso
    obtain ⟨hp, hm, he⟩ := back_pre hl hk h
    have hbt : b = l.take b.length := List.prefix_iff_eq_take.1 hp
    have hs : l.take (b.length + 1) = b ++ [l[b.length]] := by
      rw [List.take_succ_eq_append_getElem hb, ← hbt]
    have hpre : encL (b ++ [l[b.length]]) <+: ((encB l).extract 0 k).data.toList := by
      rw [ext_front, encB_list, List.prefix_take_iff]
      refine ⟨?_, ?_⟩
      · rw [← hs]
        refine ⟨encL (l.drop (b.length + 1)), ?_⟩
        rw [← encL_app, List.take_append_drop]
      · rw [encL_snoc, List.length_append, h.len.2]
        have e : (encS l[b.length]).data.toList.length = (encS l[b.length]).size := by simp
        omega
    have := (h.most (fun r hr => by rw [← hs] at hr; exact hl r (List.mem_of_mem_take hr)) hpre).length_le
    rw [List.length_append, List.length_singleton] at this
    omega
theorem back_again {b c : List ByteArray} {n : Nat} {s : ByteArray} (hb : ∀ r ∈ b, r.size ≤ 4096) (he : s = encB b) (h : Dec s c n) : c = b := by
  subst he; exact (back_whole hb h).1
end Go.Proofs.YtkhdhelhkokdcaaDoor
