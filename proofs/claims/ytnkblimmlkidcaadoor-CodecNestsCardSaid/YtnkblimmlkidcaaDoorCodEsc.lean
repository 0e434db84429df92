/- Plain functions for the layer codec: the escaped form. No program in sight. -/
import Derived.WalkKit
namespace Go.Proofs.YtnkblimmlkidcaaDoor
open Go.RowKit

/-- A byte that is written as it is. -/
def plainB (c : UInt8) : Bool := decide (33 ≤ c.toNat ∧ c.toNat ≤ 126 ∧ c.toNat ≠ 37 ∧ c.toNat ≠ 124 ∧ c.toNat ≠ 44 ∧ c.toNat ≠ 61 ∧ c.toNat ≠ 59 ∧ c.toNat ≠ 34)
/-- The digit with a value below 16. -/
def hexU (d : Nat) : UInt8 := if d < 10 then UInt8.ofNat (48 + d) else UInt8.ofNat (55 + d)
/-- The value of a digit. -/
def hexV (c : UInt8) : Option Nat := if 48 ≤ c.toNat ∧ c.toNat ≤ 57 then some (c.toNat - 48) else if 65 ≤ c.toNat ∧ c.toNat ≤ 70 then some (c.toNat - 55) else none
theorem hexV_dig (d : Nat) (h : d < 16) : hexV (hexU d) = some d := by
  have : ∀ d : Fin 16, hexV (hexU d.1) = some d.1 := by decide +kernel
  exact this ⟨d, h⟩
theorem hexU_val {c : UInt8} {d : Nat} (h : hexV c = some d) : hexU d = c ∧ d < 16 := by
  have : ∀ n : Fin 256, ∀ d, hexV (UInt8.ofNat n.1) = some d → hexU d = UInt8.ofNat n.1 ∧ d < 16 := by
    intro n d hd
    have : ∀ n : Fin 256, (match hexV (UInt8.ofNat n.1) with | none => true | some d => decide (hexU d = UInt8.ofNat n.1 ∧ d < 16)) = true := by decide +kernel
    have := this n
    rw [hd] at this
    simpa using this
  have h2 := this ⟨c.toNat, c.toNat_lt⟩ d
  simp at h2
  exact h2 h
theorem plainB_pct : plainB 37 = false := by decide
theorem hexU_plain (d : Nat) (h : d < 16) : plainB (hexU d) = true := by
  have : ∀ d : Fin 16, plainB (hexU d.1) = true := by decide +kernel
  exact this ⟨d, h⟩

/-- A byte, written. -/
def escC (c : UInt8) : List UInt8 := if plainB c then [c] else [37, hexU (c.toNat / 16), hexU (c.toNat % 16)]
def escL : List UInt8 → List UInt8
  | [] => []
  | c :: r => escC c ++ escL r
theorem escL_append (a b : List UInt8) : escL (a ++ b) = escL a ++ escL b := by
  induction a with
  | nil => rfl
  | cons c r ih => simp [escL, ih]
theorem escC_length (c : UInt8) : (escC c).length ≤ 3 := by unfold escC; split <;> simp
theorem escL_length (l : List UInt8) : (escL l).length ≤ 3 * l.length := by
  induction l with
  | nil => simp [escL]
  | cons c r ih => have := escC_length c; simp [escL]; omega
/-- The bytes of a form. State 0: between two bytes; 1: behind a sign of escape; n + 2: behind it and a digit of value n. -/
def unE : List UInt8 → Nat → Option (List UInt8)
  | [], 0 => some []
  | [], _ + 1 => none
  | c :: r, 0 => if plainB c then (unE r 0).map (c :: ·) else if c = 37 then unE r 1 else none
  | c :: r, 1 => (hexV c).bind fun a => unE r (a + 2)
  | c :: r, n + 2 => (hexV c).bind fun b => if plainB (UInt8.ofNat (n * 16 + b)) then none else (unE r 0).map (UInt8.ofNat (n * 16 + b) :: ·)
theorem unE_esc (l : List UInt8) : unE (escL l) 0 = some l := by
  induction l with
  | nil => rfl
  | cons c r ih =>
    have hc := c.toNat_lt
    have e : UInt8.ofNat (c.toNat / 16 * 16 + c.toNat % 16) = c := by
      rw [show c.toNat / 16 * 16 + c.toNat % 16 = c.toNat by omega]; simp
    rw [escL, escC]
    by_cases h : plainB c = true
    · rw [if_pos h]; simp [unE, h, ih]
    · rw [if_neg h]
      show unE (37 :: hexU (c.toNat / 16) :: hexU (c.toNat % 16) :: escL r) 0 = _
      rw [unE, if_neg (by rw [plainB_pct]; simp), if_pos rfl, unE, hexV_dig _ (by omega), Option.bind_some, unE, hexV_dig _ (by omega), Option.bind_some, e, if_neg h, ih]
      rfl
theorem esc_unE (t : List UInt8) : ∀ v, (unE t 0 = some v → escL v = t) ∧ (unE t 1 = some v → escL v = 37 :: t) ∧ (∀ a, a < 16 → unE t (a + 2) = some v → escL v = 37 :: hexU a :: t) := by
  induction t with
  | nil =>
    intro v
    refine ⟨fun h => ?_, fun h => ?_, fun a ha h => ?_⟩
    · simp [unE] at h; subst h; rfl
    · simp [unE] at h
    · simp [unE] at h
  | cons c r ih =>
    intro v
    refine ⟨fun h => ?_, fun h => ?_, fun a ha h => ?_⟩
    · rw [unE] at h
      split at h
      · rename_i hp
        rw [Option.map_eq_some_iff] at h
        obtain ⟨t, h1, rfl⟩ := h
        rw [escL, (ih t).1 h1, escC, if_pos hp]; rfl
      · split at h
        · rename_i h37; rw [(ih v).2.1 h, h37]
        · cases h
    · rw [unE] at h
      cases hc : hexV c with
      | none => rw [hc] at h; cases h
      | some d =>
        rw [hc, Option.bind_some] at h
        obtain ⟨e, hd⟩ := hexU_val hc
        rw [(ih v).2.2 d hd h, e]
    · rw [unE] at h
      cases hc : hexV c with
      | none => rw [hc] at h; cases h
      | some d =>
        rw [hc, Option.bind_some] at h
        obtain ⟨e, hd⟩ := hexU_val hc
        split at h
        · cases h
        · rename_i hp
          rw [Option.map_eq_some_iff] at h
          obtain ⟨t, h1, rfl⟩ := h
          have eb : (UInt8.ofNat (a * 16 + d)).toNat = a * 16 + d := by simp; omega
          rw [escL, (ih t).1 h1, escC, if_neg hp, eb, show (a * 16 + d) / 16 = a by omega, show (a * 16 + d) % 16 = d by omega, e]; rfl
theorem unE_forth {t v : List UInt8} (h : unE t 0 = some v) : escL v = t := (esc_unE t v).1 h
theorem unE_length (t : List UInt8) : ∀ n v, unE t n = some v → v.length ≤ t.length := by
  induction t with
  | nil => intro n v h; cases n with
    | zero => simp [unE] at h; subst h; simp
    | succ n => simp [unE] at h
  | cons c r ih =>
    intro n v h
    rcases n with _ | _ | n
    · rw [unE] at h
      split at h
      · rw [Option.map_eq_some_iff] at h
        obtain ⟨t, h1, rfl⟩ := h
        have := ih _ _ h1; simp; omega
      · split at h
        · have := ih _ _ h; simp; omega
        · cases h
    · rw [unE] at h
      cases hc : hexV c with
      | none => rw [hc] at h; cases h
      | some d => rw [hc, Option.bind_some] at h; have := ih _ _ h; simp; omega
    · rw [unE] at h
      cases hc : hexV c with
      | none => rw [hc] at h; cases h
      | some d =>
        rw [hc, Option.bind_some] at h
        split at h
        · cases h
        · rw [Option.map_eq_some_iff] at h
          obtain ⟨t, h1, rfl⟩ := h
          have := ih _ _ h1; simp; omega

/-- The same without the look at what a digit pair gives: what the reference reads before it compares. -/
def rawE : List UInt8 → Nat → Option (List UInt8)
  | [], 0 => some []
  | [], _ + 1 => none
  | c :: r, 0 => if c = 37 then rawE r 1 else (rawE r 0).map (c :: ·)
  | c :: r, 1 => (hexV c).bind fun a => rawE r (a + 2)
  | c :: r, n + 2 => (hexV c).bind fun b => (rawE r 0).map (UInt8.ofNat (n * 16 + b) :: ·)
theorem raw_of_unE (t : List UInt8) : ∀ n v, unE t n = some v → rawE t n = some v := by
  induction t with
  | nil => intro n v h; cases n with
    | zero => exact h
    | succ n => simp [unE] at h
  | cons c r ih =>
    intro n v h
    rcases n with _ | _ | n
    · rw [unE] at h
      rw [rawE]
      split at h
      · rename_i hp
        have h37 : c ≠ 37 := fun e => by rw [e] at hp; cases hp
        rw [if_neg h37]
        rw [Option.map_eq_some_iff] at h
        obtain ⟨t, h1, rfl⟩ := h
        rw [ih _ _ h1]; rfl
      · split at h
        · rename_i h37; rw [if_pos h37]; exact ih _ _ h
        · cases h
    · rw [unE] at h
      rw [rawE]
      cases hc : hexV c with
      | none => rw [hc] at h; cases h
      | some d => rw [hc, Option.bind_some] at h; exact ih _ _ h
    · rw [unE] at h
      rw [rawE]
      cases hc : hexV c with
      | none => rw [hc] at h; cases h
      | some d =>
        rw [hc, Option.bind_some] at h
        split at h
        · cases h
        · rw [Option.map_eq_some_iff] at h
          obtain ⟨t, h1, rfl⟩ := h
          show (rawE r 0).map _ = _
          rw [ih _ _ h1]; rfl
/-- The reference's way of reading gives the same. -/
theorem raw_same (t : List UInt8) : unE t 0 = (rawE t 0).bind fun v => if escL v = t then some v else none := by
  cases h : unE t 0 with
  | some v => rw [raw_of_unE _ _ _ h, Option.bind_some, if_pos (unE_forth h)]
  | none =>
    cases hr : rawE t 0 with
    | none => rfl
    | some v =>
      rw [Option.bind_some]
      by_cases he : escL v = t
      · have := unE_esc v
        rw [he, h] at this; cases this
      · rw [if_neg he]
/-- The escaped form of a string, and the string with an escaped form. -/
def escS (s : ByteArray) : ByteArray := ⟨(escL s.data.toList).toArray⟩
def unescO (s : ByteArray) : Option ByteArray := (unE s.data.toList 0).map fun l => ⟨l.toArray⟩
theorem unesc_esc (s : ByteArray) : unescO (escS s) = some s := by simp [unescO, escS, unE_esc]
theorem esc_unesc {t s : ByteArray} (h : unescO t = some s) : escS s = t := by
  simp only [unescO, Option.map_eq_some_iff] at h
  obtain ⟨l, h, rfl⟩ := h
  apply ByteArray.ext
  simp [escS, unE_forth h]
theorem escS_append (a b : ByteArray) : escS (a ++ b) = escS a ++ escS b := by
  apply ByteArray.ext
  simp [escS, ByteArray.data_append, escL_append]
theorem escS_inj {a b : ByteArray} (h : escS a = escS b) : a = b := by
  have := unesc_esc a
  rw [h, unesc_esc] at this
  exact (Option.some.inj this).symm
theorem escS_size (s : ByteArray) : (escS s).size ≤ 3 * s.size := by
  have := escL_length s.data.toList
  show (escL s.data.toList).toArray.size ≤ 3 * s.size
  simpa using this
theorem unescO_size {t s : ByteArray} (h : unescO t = some s) : s.size ≤ t.size := by
  simp only [unescO, Option.map_eq_some_iff] at h
  obtain ⟨l, h, rfl⟩ := h
  have := unE_length _ _ _ h
  show l.toArray.size ≤ t.size
  simpa using this
def unescS (s : ByteArray) : ByteArray := (unescO s).getD ByteArray.empty
def unescE (s : ByteArray) : Int := if (unescO s).isSome then 0 else 4
end Go.Proofs.YtnkblimmlkidcaaDoor
