/- journal.Decode and its reference. -/
import Derived.Test.YtkhdhelhkokdcaaDoorJrnRFirst
import Derived.Test.YtkhdhelhkokdcaaDoorStrs
import Derived.IntWalk
namespace Go.Proofs.YtkhdhelhkokdcaaDoor
open Go.RowKit

/-- The bytes of records. -/
def encL (l : List ByteArray) : List UInt8 := l.flatMap fun r => (encS r).data.toList
theorem encL_snoc (l : List ByteArray) (r : ByteArray) : encL (l ++ [r]) = encL l ++ (encS r).data.toList := by simp [encL]
theorem encL_cons (l : List ByteArray) (r : ByteArray) : encL (r :: l) = (encS r).data.toList ++ encL l := by simp [encL]
/-- n bytes of s are the records l, and no record follows. -/
structure Dec (s : ByteArray) (l : List ByteArray) (n : Nat) : Prop where
  le : n ≤ s.size
  bytes : s.data.toList.take n = encL l
  small : ∀ r ∈ l, r.size ≤ 4096
  stop : firstO (s.extract n s.size) = none
theorem encS_len (r : ByteArray) : 19 ≤ (encS r).size := by
  have h := encS_size r
  have : 1 ≤ (itoaS r.size).size := by
    have e : (itoaS (r.size : Int)).size = (Lib.decDigits r.size).length := by rw [itoaS_nat]; show (Lib.decDigits r.size).toArray.size = _; simp
    have := decDigits_ne r.size
    rw [← List.length_pos_iff] at this; omega
  omega
theorem encL_len (l : List ByteArray) : 19 * l.length ≤ (encL l).length := by
  induction l with
  | nil => simp [encL]
  | cons r l ih =>
    rw [encL_cons, List.length_append, List.length_cons]
    have := encS_len r
    have e : (encS r).data.toList.length = (encS r).size := by simp
    omega
theorem Dec.len {s : ByteArray} {l : List ByteArray} {n : Nat} (h : Dec s l n) : 19 * l.length ≤ n ∧ (encL l).length = n := by
  have h1 := encL_len l
  have h2 := h.bytes
  have h3 : (s.data.toList.take n).length = n := by rw [List.length_take]; have := h.le; have e : s.data.toList.length = s.size := by simp
                                                    omega
  rw [h2] at h3
  exact ⟨by omega, h3⟩
/-- A record stands at n. -/
theorem good_enc {s r : ByteArray} {n : Nat} (h : Good (s.extract n s.size) r) (hn : n ≤ s.size) : n + (encS r).size ≤ s.size ∧ s.data.toList.take (n + (encS r).size) = s.data.toList.take n ++ (encS r).data.toList := by
  obtain ⟨_, h2⟩ := h
  rw [Lib.hasPrefix, List.isPrefixOf_iff_prefix] at h2
  obtain ⟨x, hx⟩ := h2
  rw [ext_back] at hx
  have e : (encS r).data.toList.length = (encS r).size := by simp
  have e2 : s.data.toList.length = s.size := by simp
  have hl : (s.data.toList.drop n).length = s.size - n := by rw [List.length_drop, e2]
  rw [← hx, List.length_append, e] at hl
  refine ⟨by omega, ?_⟩
  rw [List.take_add, ← hx, ← e, List.take_left]
theorem good_list {S : List UInt8} {s r : ByteArray} (hs : s.data.toList = S) : Good s r ↔ r.size ≤ 4096 ∧ (encS r).data.toList <+: S := by
  rw [Good, Lib.hasPrefix, List.isPrefixOf_iff_prefix, hs]
/-- Two readings are one. -/
theorem pre_or {l : List ByteArray} : ∀ {m : List ByteArray} {S : List UInt8}, (∀ r ∈ l, r.size ≤ 4096) → (∀ r ∈ m, r.size ≤ 4096) → encL l <+: S → encL m <+: S → l <+: m ∨ m <+: l := by
  induction l with
  | nil => intro m S _ _ _ _; exact .inl (List.nil_prefix)
  | cons r l ih =>
    intro m S hl hm h1 h2
    cases m with
    | nil => exact .inr (List.nil_prefix)
    | cons q m =>
      rw [encL_cons] at h1 h2
      have g1 : Good ⟨S.toArray⟩ r := (good_list (S := S) (by simp)).2 ⟨hl r (by simp), (List.prefix_append _ _).trans h1⟩
      have g2 : Good ⟨S.toArray⟩ q := (good_list (S := S) (by simp)).2 ⟨hm q (by simp), (List.prefix_append _ _).trans h2⟩
      obtain rfl := good_one g1 g2
      obtain ⟨x, hx⟩ := h1
      obtain ⟨y, hy⟩ := h2
      have h3 : encL l <+: S.drop (encS r).data.toList.length := ⟨x, by rw [← hx, List.append_assoc, List.drop_left]⟩
      have h4 : encL m <+: S.drop (encS r).data.toList.length := ⟨y, by rw [← hy, List.append_assoc, List.drop_left]⟩
      rcases ih (fun z hz => hl z (List.mem_cons_of_mem _ hz)) (fun z hz => hm z (List.mem_cons_of_mem _ hz)) h3 h4 with h | h
      · exact .inl (List.cons_prefix_cons.2 ⟨rfl, h⟩)
      · exact .inr (List.cons_prefix_cons.2 ⟨rfl, h⟩)
/-- Records whose bytes are a prefix are among the records read. -/
theorem Dec.most {s : ByteArray} {l m : List ByteArray} {n : Nat} (h : Dec s l n) (hm : ∀ r ∈ m, r.size ≤ 4096) (hp : encL m <+: s.data.toList) : m <+: l := by
  have hb : encL l <+: s.data.toList := by rw [← h.bytes]; exact List.take_prefix _ _
  rcases pre_or h.small hm hb hp with h1 | h1
  · obtain ⟨x, rfl⟩ := h1
    cases x with
    | nil => simp
    | cons r x =>
      exfalso
      have hg : Good (s.extract n s.size) r := by
        refine (good_list (ext_back s n)).2 ⟨hm r (by simp), ?_⟩
        obtain ⟨y, hy⟩ := hp
        have e : encL (l ++ r :: x) = encL l ++ ((encS r).data.toList ++ encL x) := by simp [encL]
        rw [e] at hy
        have hl : (encL l).length = n := h.len.2
        refine ⟨encL x ++ y, ?_⟩
        rw [← hy, ← hl, List.append_assoc, List.append_assoc, List.drop_left]
      exact absurd hg (firstO_none.1 h.stop r)
  · exact h1
theorem Dec.one {s : ByteArray} {l m : List ByteArray} {n k : Nat} (h : Dec s l n) (h' : Dec s m k) : l = m ∧ n = k := by
  have h1 := h.most h'.small (by rw [← h'.bytes]; exact List.take_prefix _ _)
  have h2 := h'.most h.small (by rw [← h.bytes]; exact List.take_prefix _ _)
  have e := List.IsPrefix.eq_of_length_le h1 (h2.length_le)
  subst e
  exact ⟨rfl, h.len.2.symm.trans h'.len.2⟩
end Go.Proofs.YtkhdhelhkokdcaaDoor
