/- Plain: the number with a decimal form. -/
import Derived.Test.YtnkblimmlkidcaaDoorCodDec
import Derived.Test.YtnkblimmlkidcaaDoorItoaLaws
import Derived.Test.YtnkblimmlkidcaaDoorCodRefInt
import Derived.Lib.AtoiAllCases
namespace Go.Proofs.YtnkblimmlkidcaaDoor
open Go.RowKit

/-- Whether a list of bytes is a decimal form, and its number. -/
def intForm (l : List UInt8) : Bool := match l with
  | [] => false
  | c :: r => if c = 45 then decL r false else decL (c :: r) true
def intVal (l : List UInt8) : Int := match l with
  | [] => 0
  | c :: r => if c = 45 then -(valL r : Int) else valL (c :: r)
def inInt (z : Int) : Prop := -9223372036854775808 ≤ z ∧ z ≤ 9223372036854775807
instance (z : Int) : Decidable (inInt z) := by unfold inInt; infer_instance
/-- What ReadInt gives: the number and the code. -/
def readIntP (s : ByteArray) : Int × Int :=
  if intForm s.data.toList = true then (if inInt (intVal s.data.toList) then (intVal s.data.toList, 0) else (0, 27)) else (0, 4)
theorem readInt_form {s : ByteArray} (h : intForm s.data.toList = false) : readIntP s = (0, 4) := by rw [readIntP, if_neg (by rw [h]; decide)]
theorem readInt_range {s : ByteArray} (h : intForm s.data.toList = true) (hr : ¬ inInt (intVal s.data.toList)) : readIntP s = (0, 27) := by rw [readIntP, if_pos h, if_neg hr]
theorem readInt_ok {s : ByteArray} (h : intForm s.data.toList = true) (hr : inInt (intVal s.data.toList)) : readIntP s = (intVal s.data.toList, 0) := by rw [readIntP, if_pos h, if_pos hr]
theorem decL_digits {l : List UInt8} {z : Bool} (h : decL l z = true) : l ≠ [] ∧ ∀ c ∈ l, 48 ≤ c.toNat ∧ c.toNat ≤ 57 := by
  cases l with
  | nil => cases h
  | cons c r =>
    rw [decL, Bool.and_eq_true] at h
    refine ⟨by simp, fun x hx => ?_⟩
    have := List.all_eq_true.1 h.2 x hx
    simpa [digC] using this
theorem parse10_all : ∀ (l : List UInt8) (a : Nat), (∀ c ∈ l, 48 ≤ c.toNat ∧ c.toNat ≤ 57) → a < 18446744073709551616 → Lib.parseUint10 a l = if valF a l < 18446744073709551616 then .ok (valF a l) else .range := by
  intro l
  induction l with
  | nil => intro a _ ha; rw [if_pos (show valF a [] < _ from ha)]; rfl
  | cons c r ih =>
    intro a hd ha
    have hc := hd c (by simp)
    have hge := valF_ge r (a * 10 + (c.toNat - 48))
    have hv : valF a (c :: r) = valF (a * 10 + (c.toNat - 48)) r := rfl
    rw [Lib.parseUint10, if_pos hc]
    by_cases h1 : 1844674407370955162 ≤ a
    · rw [if_pos h1, hv, if_neg (by omega)]
    · rw [if_neg h1]
      by_cases h2 : 18446744073709551616 ≤ a * 10 + (c.toNat - 48)
      · rw [if_pos h2, hv, if_neg (by omega)]
      · rw [if_neg h2, ih _ (fun x hx => hd x (List.mem_cons_of_mem _ hx)) (by omega), hv]
theorem parseMag_all {l : List UInt8} {z : Bool} (h : decL l z = true) : Lib.parseMag l = if valL l < 18446744073709551616 then .ok (valL l) else .range := by
  obtain ⟨h1, h2⟩ := decL_digits h
  rw [Lib.parseMag, if_neg h1, parse10_all l 0 h2 (by omega)]; rfl
/-- How strconv.Atoi ends at a decimal form. -/
theorem atoi_form {l : List UInt8} (h : intForm l = true) : Lib.atoiAll l = if inInt (intVal l) then .ok (intVal l) else .range := by
  cases l with
  | nil => cases h
  | cons c r =>
    unfold intForm at h
    have hI : intVal (c :: r) = if c = 45 then -(valL r : Int) else valL (c :: r) := rfl
    by_cases hc : c = 45
    · subst hc
      simp only [if_true] at h hI
      have hp := parseMag_all h
      rw [Lib.atoiAll_minus, hp, hI]
      by_cases hb : valL r < 18446744073709551616
      · rw [if_pos hb]
        by_cases h2 : 9223372036854775808 < valL r
        · simp only [Lib.signed, if_pos h2]; rw [if_neg (fun h : inInt _ => by unfold inInt at h; omega)]
        · simp only [Lib.signed, if_neg h2]; rw [if_pos (show inInt _ by unfold inInt; omega)]
      · rw [if_neg hb, if_neg (fun h : inInt _ => by unfold inInt at h; omega)]; rfl
    · simp only [if_neg hc] at h hI
      have hp := parseMag_all h
      have hd := (decL_digits h).2 c (by simp)
      rw [Lib.atoiAll_plain c r (by omega) (by omega), hp, hI]
      by_cases hb : valL (c :: r) < 18446744073709551616
      · rw [if_pos hb]
        by_cases h2 : 9223372036854775808 ≤ valL (c :: r)
        · simp only [Lib.signless, if_pos h2]; rw [if_neg (fun h : inInt _ => by unfold inInt at h; omega)]
        · simp only [Lib.signless, if_neg h2]; rw [if_pos (show inInt _ by unfold inInt; omega)]
      · rw [if_neg hb, if_neg (fun h : inInt _ => by unfold inInt at h; omega)]; rfl
/-- A form without sign is the form of its number. -/
theorem dec_val (n : Nat) : ∀ l : List UInt8, l.length = n + 1 → (∀ c ∈ l, 48 ≤ c.toNat ∧ c.toNat ≤ 57) → (n = 0 ∨ ∀ c, l[0]? = some c → c.toNat ≠ 48) → Lib.decDigits (valL l) = l := by
  induction n with
  | zero =>
    intro l hl hd _
    match l, hl with
    | [c], _ =>
      have hc := hd c (by simp)
      have e : valL [c] = c.toNat - 48 := by simp [valL]
      rw [e, Lib.decDigits_one (by omega)]
      congr 1
      apply UInt8.toNat_inj.1
      simp; omega
  | succ n ih =>
    intro l hl hd hlead
    have hne : l ≠ [] := by intro e; subst e; simp at hl
    obtain ⟨m, c, rfl⟩ : ∃ m c, l = m ++ [c] := ⟨l.dropLast, l.getLast hne, (List.dropLast_concat_getLast hne).symm⟩
    have hm : m.length = n + 1 := by simpa using hl
    have hlead2 : ∀ x, m[0]? = some x → x.toNat ≠ 48 := by
      intro x hx
      rcases hlead with h | h
      · omega
      · exact h x (by rw [List.getElem?_append_left (by omega)]; exact hx)
    have hi := ih m hm (fun x hx => hd x (by simp [hx])) (.inr hlead2)
    have hpos : valL m ≠ 0 := by
      intro e
      rw [e] at hi
      have : m = [48] := by rw [← hi]; decide +kernel
      subst this
      exact hlead2 48 rfl rfl
    have hc := hd c (by simp)
    have hv : valL (m ++ [c]) = valL m * 10 + (c.toNat - 48) := by simp [valL, List.foldl_append]
    rw [hv, Lib.decDigits, dif_neg (by omega), show (valL m * 10 + (c.toNat - 48)) / 10 = valL m by omega, hi, show (valL m * 10 + (c.toNat - 48)) % 10 = c.toNat - 48 by omega]
    congr 2
    apply UInt8.toNat_inj.1
    simp; omega
theorem decL_lead0 {l : List UInt8} {z : Bool} (h : decL l z = true) : l.length = 0 + 1 ∨ ∀ c, l[0]? = some c → c.toNat ≠ 48 := by
  cases l with
  | nil => cases h
  | cons c r =>
    rw [decL, Bool.and_eq_true, Bool.not_eq_true'] at h
    by_cases hr : r = []
    · left; rw [hr]; rfl
    · right
      intro x hx
      simp at hx; subst hx
      intro e
      have := h.1
      rw [decide_eq_true e, decide_eq_true hr] at this
      simp at this
theorem decL_dec {l : List UInt8} {z : Bool} (h : decL l z = true) : Lib.decDigits (valL l) = l := by
  obtain ⟨h1, h2⟩ := decL_digits h
  have hl : l.length = l.length - 1 + 1 := by
    have := List.length_pos_iff.2 h1; omega
  refine dec_val (l.length - 1) l hl h2 ?_
  rcases decL_lead0 h with h | h
  · left; omega
  · exact .inr h
/-- A form is the form of its number. -/
theorem form_itoa {l : List UInt8} (h : intForm l = true) : Lib.itoa (intVal l) = l := by
  cases l with
  | nil => cases h
  | cons c r =>
    unfold intForm at h
    have hI : intVal (c :: r) = if c = 45 then -(valL r : Int) else valL (c :: r) := rfl
    by_cases hc : c = 45
    · subst hc
      simp only [if_true] at h hI
      have hd := decL_dec h
      have hpos : 1 ≤ valL r := by
        cases r with
        | nil => cases h
        | cons x t =>
          rcases Nat.eq_zero_or_pos (valL (x :: t)) with e | e
          · exfalso
            rw [e] at hd
            have hx : [48] = x :: t := by rw [← hd]; decide +kernel
            injection hx with hx ht
            subst hx; subst ht
            exact absurd h (by decide)
          · exact e
      rw [hI, Lib.itoa_neg _ hpos, hd]
    · simp only [if_neg hc] at h hI
      rw [hI, Lib.itoa_nonneg, decL_dec h]
theorem dec_decL (u : Nat) : decL (Lib.decDigits u) true = true ∧ (0 < u → decL (Lib.decDigits u) false = true) := by
  have hd := decDigits_digit u
  have hne := decDigits_ne u
  have hlead := decDigits_lead u
  have hall : (Lib.decDigits u).all digC = true := by
    rw [List.all_eq_true]; intro c hc; simpa [digC] using hd c hc
  by_cases h0 : u = 0
  · subst h0
    exact ⟨by decide +kernel, fun h => absurd h (by omega)⟩
  · have hl := hlead (by omega)
    generalize Lib.decDigits u = l at *
    cases l with
    | nil => exact absurd rfl hne
    | cons c r =>
      have hc := hl c rfl
      constructor
      · rw [decL, hall, decide_eq_false hc]; rfl
      · intro _; rw [decL, hall, decide_eq_false hc]; rfl
theorem itoa_form (n : Int) : intForm (Lib.itoa n) = true ∧ intVal (Lib.itoa n) = n := by
  rcases itoa_cases n with ⟨u, rfl, hu⟩ | ⟨u, h1, rfl, hu⟩
  · rw [hu]
    have hd := (dec_decL u).1
    have hv := valL_dec u
    have hdig := decDigits_digit u
    generalize Lib.decDigits u = l at *
    cases l with
    | nil => cases hd
    | cons c r =>
      have hc := hdig c (by simp)
      have hne : ¬ c = 45 := by rintro rfl; exact absurd hc (by decide)
      exact ⟨by rw [intForm, if_neg hne]; exact hd, by rw [intVal, if_neg hne, hv]⟩
  · rw [hu]
    exact ⟨by rw [intForm, if_pos rfl]; exact (dec_decL u).2 (by omega), by rw [intVal, if_pos rfl, valL_dec]⟩
/-- What is written is read. -/
theorem readInt_itoa (n : Int) (h0 : -9223372036854775808 ≤ n) (h1 : n ≤ 9223372036854775807) : readIntP (itoaS n) = (n, 0) := by
  have e : (itoaS n).data.toList = Lib.itoa n := by simp [itoaS]
  obtain ⟨f1, f2⟩ := itoa_form n
  have := readInt_ok (s := itoaS n) (by rw [e]; exact f1) (by rw [e, f2]; exact ⟨h0, h1⟩)
  rw [this, e, f2]
/-- What is read was written so. -/
theorem itoa_readInt {s : ByteArray} (h : (readIntP s).2 = 0) : itoaS (readIntP s).1 = s := by
  unfold readIntP at h ⊢
  by_cases hf : intForm s.data.toList = true
  · rw [if_pos hf] at h ⊢
    by_cases hr : inInt (intVal s.data.toList)
    · rw [if_pos hr]
      apply ByteArray.ext
      have := form_itoa hf
      simp [itoaS, this]
    · rw [if_neg hr] at h; exact absurd h (by decide)
  · rw [if_neg hf] at h; exact absurd h (by decide)
end Go.Proofs.YtnkblimmlkidcaaDoor
