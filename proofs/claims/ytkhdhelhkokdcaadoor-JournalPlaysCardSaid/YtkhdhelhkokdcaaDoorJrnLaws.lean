/- The record with which bytes begin: plain laws. -/
import Derived.Test.YtkhdhelhkokdcaaDoorJrnFirst
import Derived.Test.YtkhdhelhkokdcaaDoorItoaLaws
namespace Go.Proofs.YtkhdhelhkokdcaaDoor
open Go.RowKit

/-- r is the record with which s begins. -/
def Good (s r : ByteArray) : Prop := r.size ≤ 4096 ∧ Lib.hasPrefix s.data.toList (encS r).data.toList = true
theorem enc_list (r : ByteArray) : (encS r).data.toList = Lib.decDigits r.size ++ 58 :: (r.data.toList ++ ((textS r).data.toList ++ [10])) := by
  simp [encS, ByteArray.data_append, itoaS_nat, decS]
theorem good_split {s r : ByteArray} (h : Good s r) : ∃ x, s.data.toList = Lib.decDigits r.size ++ 58 :: (r.data.toList ++ ((textS r).data.toList ++ 10 :: x)) := by
  obtain ⟨_, h2⟩ := h
  rw [Lib.hasPrefix, List.isPrefixOf_iff_prefix] at h2
  obtain ⟨x, hx⟩ := h2
  refine ⟨x, ?_⟩
  rw [← hx, enc_list]; simp
theorem dec_nocolon (u : Nat) : (58 : UInt8) ∉ Lib.decDigits u := by
  intro hm
  have := decDigits_digit u _ hm
  have e : (58 : UInt8).toNat = 58 := rfl
  omega
theorem dec_inj {u v : Nat} (h : Lib.decDigits u = Lib.decDigits v) : u = v := by
  have := congrArg valL h
  rwa [valL_dec, valL_dec] at this
theorem good_one {s r r' : ByteArray} (h : Good s r) (h' : Good s r') : r = r' := by
  obtain ⟨x, hx⟩ := good_split h
  obtain ⟨y, hy⟩ := good_split h'
  rw [hx] at hy
  obtain ⟨h1, h2⟩ := split_first (dec_nocolon _) (dec_nocolon _) hy
  have hs := dec_inj h1
  have := List.append_inj_left h2 (by simpa using hs)
  exact ByteArray.ext (Array.toList_inj.1 this)
theorem parse_ok (M : Nat) (hM : M < 1844674407370955162) : ∀ (l : List UInt8) (a : Nat), (∀ c ∈ l, 48 ≤ c.toNat ∧ c.toNat ≤ 57) → valF a l ≤ M → Lib.parseUintM M a l = .ok (valF a l) := by
  intro l
  induction l with
  | nil => intro a _ _; rfl
  | cons c r ih =>
    intro a hd hv
    have hv' : valF (a * 10 + (c.toNat - 48)) r ≤ M := hv
    have hge := valF_ge r (a * 10 + (c.toNat - 48))
    rw [Lib.parseUintM, if_pos (hd c (by simp)), if_neg (by omega), if_neg (by omega), ih _ (fun x hx => hd x (List.mem_cons_of_mem _ hx)) hv']
    rfl
theorem pu_dec (s : ByteArray) (u : Nat) (hs : s.data.toList = Lib.decDigits u) (hu : u ≤ 4096) : puS s = some u := by
  have hv : valF 0 (Lib.decDigits u) = u := valL_dec u
  have := parse_ok (2 ^ 16 - 1) (by decide) (Lib.decDigits u) 0 (decDigits_digit u) (by rw [hv]; omega)
  rw [hv] at this
  rw [puS, hs, Lib.parseUintB, if_neg (decDigits_ne u), this]
theorem ext_mid (s : ByteArray) (a b : Nat) : (s.extract a b).data.toList = (s.data.toList.drop a).take (b - a) := Lib.extract_data s a b
/-- Where a record begins, the program finds it. -/
theorem first_good {s r : ByteArray} (h : Good s r) : firstP s = (r, ((encS r).size : Int), true) := by
  obtain ⟨x, hx⟩ := good_split h
  have hr := h.1
  have hl1 := decDigits_len 3 r.size (by omega)
  have hl0 : 1 ≤ (Lib.decDigits r.size).length := by
    have := decDigits_ne r.size
    rw [← List.length_pos_iff] at this; omega
  have hI : cutI s 58 = (((Lib.decDigits r.size).length : Nat) : Int) := by
    rw [cutI_eq, hx]
    refine ⟨?_, by simp⟩
    rw [List.take_left]
    exact dec_nocolon _
  have hk : (s.extract 0 (Lib.decDigits r.size).length).data.toList = Lib.decDigits r.size := by
    rw [ext_front, hx, List.take_left]
  have hsz : s.size = (Lib.decDigits r.size).length + 1 + r.size + 17 + x.length := by
    have h1 : s.data.toList.length = s.size := by simp
    have h2 := textS_size r
    have h3 : (textS r).data.toList.length = 16 := by simpa using h2
    have h4 : r.data.toList.length = r.size := by simp
    rw [← h1, hx]
    simp only [List.length_append, List.length_cons, h3, h4]; omega
  have hrec : s.extract ((Lib.decDigits r.size).length + 1) ((Lib.decDigits r.size).length + 1 + r.size) = r := by
    apply ByteArray.ext; apply Array.toList_inj.1
    rw [ext_mid, hx, show (Lib.decDigits r.size).length + 1 = (Lib.decDigits r.size ++ [58]).length by simp, show Lib.decDigits r.size ++ 58 :: (r.data.toList ++ ((textS r).data.toList ++ 10 :: x)) = (Lib.decDigits r.size ++ [58]) ++ (r.data.toList ++ ((textS r).data.toList ++ 10 :: x)) by simp, List.drop_left]
    rw [Nat.add_sub_cancel_left, show r.size = r.data.toList.length by simp, List.take_left]
  rw [firstP, if_neg, hI, Int.toNat_natCast, firstG, pu_dec _ r.size hk hr]
  · show firstH s _ r.size = _
    rw [firstH, if_neg (by omega), hrec, h.2]
  · rw [hI]
    rintro (h1 | h1 | ⟨h1, h2⟩)
    · omega
    · omega
    · by_cases h10 : r.size < 10
      · rw [Lib.decDigits_one h10] at h1
        simp at h1
      · rw [hx, List.getElem?_append_left (by omega)] at h2
        exact decDigits_lead r.size (by omega) _ h2 rfl
/-- What the program finds is a record. -/
theorem first_true {s : ByteArray} (h : (firstP s).2.2 = true) : Good s (firstP s).1 ∧ (firstP s).2.1 = ((encS (firstP s).1).size : Int) := by
  unfold firstP at h ⊢
  split at h
  · cases h
  · rename_i hc
    rw [if_neg hc]
    unfold firstG at h ⊢
    cases hp : puS (s.extract 0 (cutI s 58).toNat) with
    | none => rw [hp] at h; cases h
    | some n =>
      rw [hp] at h
      simp only [firstH] at h ⊢
      split at h
      · cases h
      · rename_i hn
        rw [if_neg hn]
        refine ⟨⟨?_, h⟩, rfl⟩
        simp only [ByteArray.size_extract]; omega
open Classical in
/-- The record with which bytes begin. -/
noncomputable def firstO (s : ByteArray) : Option ByteArray := if (firstP s).2.2 then some (firstP s).1 else none
theorem firstO_some {s r : ByteArray} : firstO s = some r ↔ Good s r := by
  unfold firstO
  constructor
  · intro h
    split at h
    · rename_i hh; cases h; exact (first_true hh).1
    · cases h
  · intro h
    rw [first_good h, if_pos rfl]
theorem firstO_none {s : ByteArray} : firstO s = none ↔ ∀ r, ¬ Good s r := by
  constructor
  · intro h r hr
    rw [firstO_some.2 hr] at h; cases h
  · intro h
    cases hf : firstO s with
    | none => rfl
    | some r => exact absurd (firstO_some.1 hf) (h r)
end Go.Proofs.YtkhdhelhkokdcaaDoor
