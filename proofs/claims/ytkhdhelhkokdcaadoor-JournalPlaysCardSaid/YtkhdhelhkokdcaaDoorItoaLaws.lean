/- Decimal digits: plain laws. -/
import Derived.WalkKit
import Derived.Lib.ItoaMem
import Derived.Lib.ItoaNum
namespace Go.Proofs.YtkhdhelhkokdcaaDoor
open Go.RowKit

/-- The value of decimal digits. -/
def valL (l : List UInt8) : Nat := l.foldl (fun n c => n * 10 + (c.toNat - 48)) 0
theorem valL_dec (u : Nat) : valL (Lib.decDigits u) = u := by
  induction u using Nat.strongRecOn with
  | _ u ih =>
    by_cases h : u < 10
    · rw [Lib.decDigits_one h]
      simp [valL]; omega
    · rw [Lib.decDigits, dif_neg h, valL, List.foldl_append, ← valL, ih (u / 10) (by omega)]
      simp; omega
theorem decDigits_digit (u : Nat) : ∀ c ∈ Lib.decDigits u, 48 ≤ c.toNat ∧ c.toNat ≤ 57 := by
  induction u using Nat.strongRecOn with
  | _ u ih =>
    by_cases h : u < 10
    · rw [Lib.decDigits_one h]
      intro c hc
      simp at hc; subst hc; simp; omega
    · rw [Lib.decDigits, dif_neg h]
      intro c hc
      rw [List.mem_append] at hc
      rcases hc with hc | hc
      · exact ih _ (by omega) c hc
      · simp at hc; subst hc; simp; omega
theorem itoa_cases (n : Int) : (∃ u : Nat, n = u ∧ Lib.itoa n = Lib.decDigits u) ∨ (∃ u : Nat, 1 ≤ u ∧ n = -(u : Int) ∧ Lib.itoa n = 45 :: Lib.decDigits u) := by
  by_cases h : 0 ≤ n
  · obtain ⟨u, rfl⟩ := Int.eq_ofNat_of_zero_le h
    exact .inl ⟨u, rfl, Lib.itoa_nonneg u⟩
  · refine .inr ⟨(-n).toNat, by omega, by omega, ?_⟩
    have e : n = -((-n).toNat : Int) := by omega
    conv => lhs; rw [e]
    exact Lib.itoa_neg _ (by omega)
theorem itoa_inj {n m : Int} (h : Lib.itoa n = Lib.itoa m) : n = m := by
  rcases itoa_cases n with ⟨u, rfl, hu⟩ | ⟨u, _, rfl, hu⟩ <;> rcases itoa_cases m with ⟨v, rfl, hv⟩ | ⟨v, _, rfl, hv⟩ <;> rw [hu, hv] at h
  · have := congrArg valL h
    rw [valL_dec, valL_dec] at this; rw [this]
  · have := decDigits_digit u 45 (by rw [h]; simp)
    have e : (45 : UInt8).toNat = 45 := rfl
    omega
  · have := decDigits_digit v 45 (by rw [← h]; simp)
    have e : (45 : UInt8).toNat = 45 := rfl
    omega
  · injection h with _ h
    have := congrArg valL h
    rw [valL_dec, valL_dec] at this; rw [this]
theorem itoa_nocolon (n : Int) : (58 : UInt8) ∉ Lib.itoa n := by
  intro hm
  have e : (58 : UInt8).toNat = 58 := rfl
  rcases itoa_cases n with ⟨u, rfl, hu⟩ | ⟨u, _, rfl, hu⟩ <;> rw [hu] at hm
  · have := decDigits_digit u _ hm; omega
  · rw [List.mem_cons] at hm
    rcases hm with hm | hm
    · cases hm
    · have := decDigits_digit u _ hm; omega
theorem split_first {a b x y : List UInt8} {c : UInt8} (ha : c ∉ a) (hb : c ∉ b) (h : a ++ c :: x = b ++ c :: y) : a = b ∧ x = y := by
  induction a generalizing b with
  | nil =>
    cases b with
    | nil => simp at h; exact ⟨rfl, h⟩
    | cons d b => simp at h; exact absurd (by rw [h.1]; simp) hb
  | cons d a ih =>
    cases b with
    | nil => simp at h; exact absurd (by rw [h.1]; simp) ha
    | cons e b =>
      simp at h
      have := ih (fun hm => ha (List.mem_cons_of_mem _ hm)) (fun hm => hb (List.mem_cons_of_mem _ hm)) h.2
      exact ⟨by rw [h.1, this.1], this.2⟩

theorem decDigits_ne (u : Nat) : Lib.decDigits u ≠ [] := by
  by_cases h : u < 10
  · rw [Lib.decDigits_one h]; simp
  · rw [Lib.decDigits, dif_neg h]; simp
/-- No leading nought. -/
theorem decDigits_lead (u : Nat) (h : 0 < u) : ∀ c, (Lib.decDigits u)[0]? = some c → c.toNat ≠ 48 := by
  induction u using Nat.strongRecOn with
  | _ u ih =>
    by_cases h10 : u < 10
    · rw [Lib.decDigits_one h10]
      intro c hc
      simp at hc; subst hc; simp; omega
    · rw [Lib.decDigits, dif_neg h10]
      intro c hc
      have hne := decDigits_ne (u / 10)
      rw [List.getElem?_append_left (by rw [List.length_pos_iff]; exact hne)] at hc
      exact ih (u / 10) (by omega) (by omega) c hc
theorem decDigits_len (k : Nat) : ∀ u, u < 10 ^ (k + 1) → (Lib.decDigits u).length ≤ k + 1 := by
  induction k with
  | zero => intro u h; rw [Lib.decDigits_one (by omega)]; simp
  | succ k ih =>
    intro u h
    by_cases h10 : u < 10
    · rw [Lib.decDigits_one h10]; simp
    · rw [Lib.decDigits, dif_neg h10, List.length_append]
      have := ih (u / 10) (by rw [Nat.pow_succ] at h; omega)
      simp; omega
theorem decDigits_len1 (u : Nat) (h : 10 ≤ u) : 2 ≤ (Lib.decDigits u).length := by
  rw [Lib.decDigits, dif_neg (by omega), List.length_append]
  have : 1 ≤ (Lib.decDigits (u / 10)).length := by
    have := decDigits_ne (u / 10)
    rw [← List.length_pos_iff] at this; omega
  simp; omega
/-- The value goes on from a. -/
def valF (a : Nat) (l : List UInt8) : Nat := l.foldl (fun n c => n * 10 + (c.toNat - 48)) a
theorem valL_eq (l : List UInt8) : valL l = valF 0 l := rfl
theorem valF_ge (l : List UInt8) : ∀ a, a ≤ valF a l := by
  induction l with
  | nil => intro a; exact Nat.le_refl _
  | cons c r ih => intro a; have := ih (a * 10 + (c.toNat - 48)); show a ≤ valF (a * 10 + (c.toNat - 48)) r; omega
theorem valF_append (a : Nat) (l m : List UInt8) : valF a (l ++ m) = valF (valF a l) m := by simp [valF, List.foldl_append]
end Go.Proofs.YtkhdhelhkokdcaaDoor
