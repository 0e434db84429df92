/- The plain laws of chapter 28. -/
import Derived.Test.YtfiogpoofpajcaaDoorPfBound
import Derived.Test.YtfiogpoofpajcaaDoorDigBack
namespace Go.Proofs.YtfiogpoofpajcaaDoor
open Go.RowKit

theorem textS_hex (y : ByteArray) : textS y = hexS (sumS y) := by unfold textS; rfl
theorem read_text (y : ByteArray) : (readHexO (textS y)).isSome = true := by
  have h := (readhex_hex (sumS y) (sumS_range y).1 (sumS_range y).2).2
  rw [← textS_hex] at h
  unfold readHexE at h
  split at h
  · assumption
  · omega
theorem cut_form {c x : ByteArray} (hc : plainS c = true) : cutOk (c ++ ⟨#[46]⟩ ++ x) 46 = true ∧ cutB (c ++ ⟨#[46]⟩ ++ x) 46 = c ∧ cutA (c ++ ⟨#[46]⟩ ++ x) 46 = x := by
  have hl : (c ++ ⟨#[46]⟩ ++ x).data.toList = c.data.toList ++ 46 :: x.data.toList := by simp [ByteArray.data_append]
  have hI : cutI (c ++ ⟨#[46]⟩ ++ x) 46 = ((c.data.toList.length : Nat) : Int) := by
    rw [cutI_eq, hl]
    refine ⟨?_, by simp⟩
    rw [List.take_left]
    exact plain_nodot hc
  refine ⟨by rw [cutOk, hI]; simp, ?_, ?_⟩
  · rw [cutB, hI, if_pos (by omega), Int.toNat_natCast]
    apply ByteArray.ext; apply Array.toList_inj.1
    rw [ext_front, hl, List.take_left]
  · rw [cutA, hI, if_pos (by omega), Int.toNat_natCast]
    apply ByteArray.ext; apply Array.toList_inj.1
    rw [ext_back, hl, show c.data.toList.length + 1 = (c.data.toList ++ [46]).length by simp, show c.data.toList ++ 46 :: x.data.toList = (c.data.toList ++ [46]) ++ x.data.toList by simp, List.drop_left]
theorem read_code (a b c : ByteArray) : (readHexO (codeS a b c)).isSome = true := read_text _
theorem bound_form {a b c x : ByteArray} (hb : plainS b = true) (hc : plainS c = true) (hx : (readHexO x).isSome = true) : boundP a b (c ++ ⟨#[46]⟩ ++ x) = if x = codeS a b c then (c, 0) else (⟨#[]⟩, 20) := by
  obtain ⟨h1, h2, h3⟩ := cut_form (x := x) hc
  rw [boundP, h1, h2, h3, if_pos ⟨rfl, hb, hc, hx⟩]
theorem bound_noform {a b s : ByteArray} (hb : plainS b = false) : boundP a b s = (⟨#[]⟩, 4) := by
  rw [boundP, if_neg]
  rintro ⟨_, h, _⟩
  rw [hb] at h; cases h
theorem bind_yes {a b c : ByteArray} (h : bindS a b c ≠ ⟨#[]⟩) : plainS b = true ∧ plainS c = true ∧ bindS a b c = c ++ ⟨#[46]⟩ ++ codeS a b c := by
  unfold bindS at h ⊢
  split at h
  · rename_i hh; exact ⟨hh.1, hh.2, by rw [if_pos hh]⟩
  · exact absurd rfl h
theorem bind_size (a b c : ByteArray) : bindS a b c = ⟨#[]⟩ ∨ (bindS a b c).size = c.size + 17 := by
  unfold bindS
  split
  · right
    have h2 : (⟨#[46]⟩ : ByteArray).size = 1 := rfl
    simp only [ByteArray.size_append, code_size]; omega
  · exact .inl rfl
theorem bound_bind {a b c : ByteArray} (h : bindS a b c ≠ ⟨#[]⟩) : boundP a b (bindS a b c) = (c, 0) := by
  obtain ⟨hb, hc, e⟩ := bind_yes h
  rw [e, bound_form hb hc (read_code a b c), if_pos rfl]
theorem bound_ok {a b s r : ByteArray} (h : boundP a b s = (r, 0)) : bindS a b r = s := by
  rw [← bound_eq, boundR] at h
  split at h
  · split at h
    · rename_i hh; cases h; exact hh
    · cases h
  · cases h

/-- The value of decimal digits. -/
def valL (l : List UInt8) : Nat := l.foldl (fun n c => n * 10 + (c.toNat - 48)) 0
theorem valL_dec (u : Nat) : valL (Lib.decDigits u) = u := by
  induction u using Nat.strongRecOn with
  | _ u ih =>
    by_cases h : u < 10
    · rw [Lib.decDigits_one h]
      simp [valL]; omega
    · rw [Lib.decDigits, dif_neg h, valL, List.foldl_append, ← valL, ih (u / 10) (by omega)]
      simp; omega
theorem decDigits_digit (u : Nat) : ∀ c ∈ Lib.decDigits u, 48 ≤ c.toNat ∧ c.toNat ≤ 57 := by
  induction u using Nat.strongRecOn with
  | _ u ih =>
    by_cases h : u < 10
    · rw [Lib.decDigits_one h]
      intro c hc
      simp at hc; subst hc; simp; omega
    · rw [Lib.decDigits, dif_neg h]
      intro c hc
      rw [List.mem_append] at hc
      rcases hc with hc | hc
      · exact ih _ (by omega) c hc
      · simp at hc; subst hc; simp; omega
theorem itoa_cases (n : Int) : (∃ u : Nat, n = u ∧ Lib.itoa n = Lib.decDigits u) ∨ (∃ u : Nat, 1 ≤ u ∧ n = -(u : Int) ∧ Lib.itoa n = 45 :: Lib.decDigits u) := by
  by_cases h : 0 ≤ n
  · obtain ⟨u, rfl⟩ := Int.eq_ofNat_of_zero_le h
    exact .inl ⟨u, rfl, Lib.itoa_nonneg u⟩
  · refine .inr ⟨(-n).toNat, by omega, by omega, ?_⟩
    have e : n = -((-n).toNat : Int) := by omega
    conv => lhs; rw [e]
    exact Lib.itoa_neg _ (by omega)
theorem itoa_inj {n m : Int} (h : Lib.itoa n = Lib.itoa m) : n = m := by
  rcases itoa_cases n with ⟨u, rfl, hu⟩ | ⟨u, _, rfl, hu⟩ <;> rcases itoa_cases m with ⟨v, rfl, hv⟩ | ⟨v, _, rfl, hv⟩ <;> rw [hu, hv] at h
  · have := congrArg valL h
    rw [valL_dec, valL_dec] at this; rw [this]
  · have := decDigits_digit u 45 (by rw [h]; simp)
    have e : (45 : UInt8).toNat = 45 := rfl
    omega
  · have := decDigits_digit v 45 (by rw [← h]; simp)
    have e : (45 : UInt8).toNat = 45 := rfl
    omega
  · injection h with _ h
    have := congrArg valL h
    rw [valL_dec, valL_dec] at this; rw [this]
theorem itoa_nocolon (n : Int) : (58 : UInt8) ∉ Lib.itoa n := by
  intro hm
  have e : (58 : UInt8).toNat = 58 := rfl
  rcases itoa_cases n with ⟨u, rfl, hu⟩ | ⟨u, _, rfl, hu⟩ <;> rw [hu] at hm
  · have := decDigits_digit u _ hm; omega
  · rw [List.mem_cons] at hm
    rcases hm with hm | hm
    · cases hm
    · have := decDigits_digit u _ hm; omega
theorem split_first {a b x y : List UInt8} {c : UInt8} (ha : c ∉ a) (hb : c ∉ b) (h : a ++ c :: x = b ++ c :: y) : a = b ∧ x = y := by
  induction a generalizing b with
  | nil =>
    cases b with
    | nil => simp at h; exact ⟨rfl, h⟩
    | cons d b => simp at h; exact absurd (by rw [h.1]; simp) hb
  | cons d a ih =>
    cases b with
    | nil => simp at h; exact absurd (by rw [h.1]; simp) ha
    | cons e b =>
      simp at h
      have := ih (fun hm => ha (List.mem_cons_of_mem _ hm)) (fun hm => hb (List.mem_cons_of_mem _ hm)) h.2
      exact ⟨by rw [h.1, this.1], this.2⟩
/-- The text that Unique digests. -/
def uniqT (seed : ByteArray) (n : Int) : ByteArray := itoaS n ++ ⟨#[58]⟩ ++ seed
theorem uniqT_inj {a b : ByteArray} {n m : Int} (h : uniqT a n = uniqT b m) : a = b ∧ n = m := by
  have h' := congrArg (fun x : ByteArray => x.data.toList) h
  simp only [uniqT, itoaS, ByteArray.data_append, Array.toList_append, List.append_assoc, List.singleton_append] at h'
  obtain ⟨h1, h2⟩ := split_first (itoa_nocolon n) (itoa_nocolon m) (by simpa using h')
  exact ⟨ByteArray.ext (Array.toList_inj.1 h2), itoa_inj h1⟩
theorem uniq_eq (a b : ByteArray) (n m : Int) : uniqueS a n = uniqueS b m ↔ textS (uniqT a n) = textS (uniqT b m) := by
  unfold uniqueS uniqT
  constructor
  · intro h
    have := congrArg (fun x : ByteArray => x.data.toList) h
    simp [ByteArray.data_append] at this
    exact ByteArray.ext this
  · intro h; rw [h]
theorem hexDig_word (d : Nat) (h : d < 16) : wordC (hexDig d) = true := by
  have : ∀ d : Fin 16, wordC (hexDig d.1) = true := by decide +kernel
  exact this ⟨d, h⟩
theorem hexTail_word (i : Nat) (n : Int) : (hexTail i n).all wordC = true := by
  induction i with
  | zero => rfl
  | succ i ih =>
    rw [hexTail, List.all_cons, ih, Bool.and_true]
    exact hexDig_word _ (by omega)
theorem uniq_word (a : ByteArray) (n : Int) : wordS (uniqueS a n) = true ∧ (uniqueS a n).size = 17 := by
  have hs : (uniqueS a n).size = 17 := by
    have h2 : (⟨#[117]⟩ : ByteArray).size = 1 := rfl
    simp only [uniqueS, ByteArray.size_append, textS_size]; omega
  refine ⟨?_, hs⟩
  rw [wordS, hs]
  have e : (uniqueS a n).data.toList = 117 :: hexTail 16 (sumS (itoaS n ++ ⟨#[58]⟩ ++ a)) := by
    simp [uniqueS, ByteArray.data_append, textS_hex, hexS]
  rw [e, List.all_cons, hexTail_word _ _]
  decide

theorem readStep_some (l : List UInt8) : ∀ m : Nat, (∀ c ∈ l, (hexVal c).isSome = true) → (l.foldl readStep (some m)).isSome = true := by
  induction l with
  | nil => intro m _; rfl
  | cons c l ih =>
    intro m h
    obtain ⟨d, hd⟩ := Option.isSome_iff_exists.1 (h c (by simp))
    rw [List.foldl_cons, show readStep (some m) c = some (m * 16 + d) by simp [readStep, hd]]
    exact ih _ (fun x hx => h x (List.mem_cons_of_mem _ hx))
theorem read_digits {s : ByteArray} (hs : s.size = 16) (h : ∀ c ∈ s.data.toList, (hexVal c).isSome = true) : (readHexO s).isSome = true := by
  rw [readHexO, if_pos hs]
  exact readStep_some _ 0 h
theorem hexTail_digits (i : Nat) (n : Int) : ∀ c ∈ hexTail i n, (hexVal c).isSome = true := by
  induction i with
  | zero => intro c hc; simp [hexTail] at hc
  | succ i ih =>
    intro c hc
    rw [hexTail, List.mem_cons] at hc
    rcases hc with rfl | hc
    · rw [hexVal_dig _ (by omega)]; rfl
    · exact ih c hc
/-- A code of which one byte is replaced by a hexadecimal digit. -/
def spoil (y : ByteArray) (at_ d : Nat) : ByteArray := (textS y).extract 0 at_ ++ ⟨#[hexDig d]⟩ ++ (textS y).extract (at_ + 1) 16
theorem spoil_read (y : ByteArray) (k d : Nat) (hk : k < 16) (hd : d < 16) : (readHexO (spoil y k d)).isSome = true := by
  have ht : (textS y).size = 16 := textS_size y
  have hl : (textS y).data.toList.length = 16 := by simpa using ht
  have e : (spoil y k d).data.toList = (textS y).data.toList.take k ++ hexDig d :: (textS y).data.toList.drop (k + 1) := by
    have h2 := ext_back (textS y) (k + 1)
    rw [ht] at h2
    simp only [spoil, ByteArray.data_append, Array.toList_append, ext_front, h2]
    simp
  refine read_digits ?_ ?_
  · have : (spoil y k d).data.toList.length = 16 := by rw [e]; simp [hl]; omega
    simpa using this
  · intro c hc
    have hall : ∀ c ∈ (textS y).data.toList, (hexVal c).isSome = true := by
      rw [textS_hex]
      exact hexTail_digits 16 _
    rw [e, List.mem_append, List.mem_cons] at hc
    rcases hc with hc | rfl | hc
    · exact hall _ (List.mem_of_mem_take hc)
    · rw [hexVal_dig _ hd]; rfl
    · exact hall _ (List.mem_of_mem_drop hc)
/-- Cutting and joining a string behind a prefix. -/
theorem cut_join (p y : ByteArray) (hy : y.size = 16) (k : Nat) (hk : k < 16) (c : UInt8) :
    (p ++ y).extract 0 (p.size + k) ++ ⟨#[c]⟩ ++ (p ++ y).extract (p.size + k + 1) (p ++ y).size = p ++ (y.extract 0 k ++ ⟨#[c]⟩ ++ y.extract (k + 1) 16) := by
  have h2 := ext_back y (k + 1)
  rw [hy] at h2
  have hp : p.data.toList.length = p.size := by simp
  apply ByteArray.ext; apply Array.toList_inj.1
  simp only [ByteArray.data_append, Array.toList_append, ext_front, ext_back, h2]
  rw [← hp, List.take_append, List.drop_append, List.take_of_length_le (by omega), List.drop_of_length_le (by omega)]
  rw [show p.data.toList.length + k - p.data.toList.length = k by omega, show p.data.toList.length + k + 1 - p.data.toList.length = k + 1 by omega]
  simp
end Go.Proofs.YtfiogpoofpajcaaDoor
