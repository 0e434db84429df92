/- Plain functions for the layer codec: base64 forms, on lists of bytes. No program in sight. -/
import Derived.WalkKit
namespace Go.Proofs.YtnkblimmlkidcaaDoor
open Go.RowKit

/-- The letter with a value below 64. -/
def b64Dig (d : Nat) : UInt8 := if d < 26 then UInt8.ofNat (65 + d) else if d < 52 then UInt8.ofNat (71 + d) else if d < 62 then UInt8.ofNat (d - 4) else if d = 62 then 45 else 95
/-- The value of a letter. -/
def b64Val (c : UInt8) : Option Nat := if 65 ≤ c.toNat ∧ c.toNat ≤ 90 then some (c.toNat - 65) else if 97 ≤ c.toNat ∧ c.toNat ≤ 122 then some (c.toNat - 71) else if 48 ≤ c.toNat ∧ c.toNat ≤ 57 then some (c.toNat + 4) else if c.toNat = 45 then some 62 else if c.toNat = 95 then some 63 else none
theorem b64Val_dig (d : Nat) (h : d < 64) : b64Val (b64Dig d) = some d := by
  have : ∀ d : Fin 64, b64Val (b64Dig d.1) = some d.1 := by decide +kernel
  exact this ⟨d, h⟩
theorem b64Dig_val {c : UInt8} {d : Nat} (h : b64Val c = some d) : b64Dig d = c ∧ d < 64 := by
  have : ∀ n : Fin 256, ∀ d, b64Val (UInt8.ofNat n.1) = some d → b64Dig d = UInt8.ofNat n.1 ∧ d < 64 := by
    intro n d hd
    have : ∀ n : Fin 256, (match b64Val (UInt8.ofNat n.1) with | none => true | some d => decide (b64Dig d = UInt8.ofNat n.1 ∧ d < 64)) = true := by decide +kernel
    have := this n
    rw [hd] at this
    simpa using this
  have h2 := this ⟨c.toNat, c.toNat_lt⟩ d
  simp at h2
  exact h2 h

/-- The form of what is left where n bits are held, of value x (n is 0, 2 or 4). -/
def b64E : List UInt8 → Nat → Nat → List UInt8
  | [], 0, _ => []
  | [], 2, x => [b64Dig (x * 16)]
  | [], _, x => [b64Dig (x * 4)]
  | c :: r, 0, _ => b64Dig (c.toNat / 4) :: b64E r 2 (c.toNat % 4)
  | c :: r, 2, x => b64Dig (x * 16 + c.toNat / 16) :: b64E r 4 (c.toNat % 16)
  | c :: r, _, x => b64Dig (x * 4 + c.toNat / 64) :: b64Dig (c.toNat % 64) :: b64E r 0 0
def b64L (l : List UInt8) : List UInt8 := b64E l 0 0
/-- The bytes of what is left of a form where n bits are held, of value x (n is 0, 2, 4 or 6); none where it is none. -/
def b64D : List UInt8 → Nat → Nat → Option (List UInt8)
  | [], n, x => if n < 6 ∧ x = 0 then some [] else none
  | c :: r, 0, x => (b64Val c).bind fun v => b64D r 6 (x * 64 + v)
  | c :: r, 2, x => (b64Val c).bind fun v => (b64D r 0 0).map fun t => UInt8.ofNat (x * 64 + v) :: t
  | c :: r, 4, x => (b64Val c).bind fun v => (b64D r 2 (v % 4)).map fun t => UInt8.ofNat (x * 16 + v / 4) :: t
  | c :: r, _, x => (b64Val c).bind fun v => (b64D r 4 (v % 16)).map fun t => UInt8.ofNat (x * 4 + v / 16) :: t
theorem b64_back3 (l : List UInt8) : b64D (b64E l 0 0) 0 0 = some l ∧ (∀ y x, y < 64 → x < 4 → b64D (b64E l 2 x) 6 y = some (UInt8.ofNat (y * 4 + x) :: l)) ∧ (∀ y x, y < 16 → x < 16 → b64D (b64E l 4 x) 4 y = some (UInt8.ofNat (y * 16 + x) :: l)) := by
  induction l with
  | nil =>
    refine ⟨by simp [b64E, b64D], fun y x hy hx => ?_, fun y x hy hx => ?_⟩
    · rw [b64E, b64D, b64Val_dig _ (by omega)]
      simp only [Option.bind_some]
      rw [show x * 16 % 16 = 0 by omega, show x * 16 / 16 = x by omega]
      simp [b64D]
      all_goals omega
    · rw [b64E, b64D, b64Val_dig _ (by omega)]
      simp only [Option.bind_some]
      rw [show x * 4 % 4 = 0 by omega, show x * 4 / 4 = x by omega]
      simp [b64D]
      all_goals omega
  | cons c r ih =>
    obtain ⟨h0, h2, h4⟩ := ih
    have hc := c.toNat_lt
    have e : UInt8.ofNat c.toNat = c := by simp
    refine ⟨?_, fun y x hy hx => ?_, fun y x hy hx => ?_⟩
    · rw [b64E, b64D, b64Val_dig _ (by omega)]
      simp only [Option.bind_some]
      rw [h2 _ _ (by omega) (by omega), show (0 * 64 + c.toNat / 4) * 4 + c.toNat % 4 = c.toNat by omega, e]
    · rw [b64E, b64D, b64Val_dig _ (by omega)]
      simp only [Option.bind_some]
      rw [show (x * 16 + c.toNat / 16) % 16 = c.toNat / 16 by omega, show (x * 16 + c.toNat / 16) / 16 = x by omega, h4 _ _ (by omega) (by omega), show c.toNat / 16 * 16 + c.toNat % 16 = c.toNat by omega, e]
      rfl
      all_goals omega
    · rw [b64E, b64D, b64Val_dig _ (by omega)]
      simp only [Option.bind_some]
      rw [show (x * 4 + c.toNat / 64) % 4 = c.toNat / 64 by omega, show (x * 4 + c.toNat / 64) / 4 = x by omega, b64D, b64Val_dig _ (by omega)]
      simp only [Option.bind_some]
      rw [show c.toNat / 64 * 64 + c.toNat % 64 = c.toNat by omega, e, h0]
      rfl
      all_goals omega
theorem b64_back (l : List UInt8) : b64D (b64L l) 0 0 = some l := (b64_back3 l).1
/-- What is read from a form has this form. -/
theorem b64_forth4 (t : List UInt8) : ∀ v, (b64D t 0 0 = some v → b64E v 0 0 = t) ∧ (∀ y, y < 64 → b64D t 6 y = some v → b64E v 0 0 = b64Dig y :: t) ∧ (∀ y x, y < 16 → x < 4 → b64D t 4 y = some v → b64E v 2 x = b64Dig (x * 16 + y) :: t) ∧ (∀ y x, y < 4 → x < 16 → b64D t 2 y = some v → b64E v 4 x = b64Dig (x * 4 + y) :: t) := by
  induction t with
  | nil =>
    intro v
    refine ⟨fun h => ?_, fun y hy h => ?_, fun y x hy hx h => ?_, fun y x hy hx h => ?_⟩
    · simp [b64D] at h; subst h; rfl
    · simp [b64D] at h
    · simp [b64D] at h; obtain ⟨rfl, rfl⟩ := h; simp [b64E]
    · simp [b64D] at h; obtain ⟨rfl, rfl⟩ := h; simp [b64E]
  | cons c r ih =>
    intro v
    refine ⟨fun h => ?_, fun y hy h => ?_, fun y x hy hx h => ?_, fun y x hy hx h => ?_⟩
    · rw [b64D] at h
      cases hc : b64Val c with
      | none => rw [hc] at h; cases h
      | some d =>
        rw [hc] at h
        simp only [Option.bind_some] at h
        obtain ⟨e, hd⟩ := b64Dig_val hc
        rw [show 0 * 64 + d = d by omega] at h
        rw [(ih v).2.1 d hd h, e]
    · rw [b64D] at h
      cases hc : b64Val c with
      | none => rw [hc] at h; cases h
      | some d =>
        rw [hc] at h
        simp only [Option.bind_some, Option.map_eq_some_iff] at h
        obtain ⟨e, hd⟩ := b64Dig_val hc
        obtain ⟨t, h1, rfl⟩ := h
        have eb : (UInt8.ofNat (y * 4 + d / 16)).toNat = y * 4 + d / 16 := by simp; omega
        rw [b64E, eb, (ih t).2.2.1 (d % 16) ((y * 4 + d / 16) % 4) (by omega) (by omega) h1, show (y * 4 + d / 16) / 4 = y by omega, show (y * 4 + d / 16) % 4 * 16 + d % 16 = d by omega, e]
      all_goals omega
    · rw [b64D] at h
      cases hc : b64Val c with
      | none => rw [hc] at h; cases h
      | some d =>
        rw [hc] at h
        simp only [Option.bind_some, Option.map_eq_some_iff] at h
        obtain ⟨e, hd⟩ := b64Dig_val hc
        obtain ⟨t, h1, rfl⟩ := h
        have eb : (UInt8.ofNat (y * 16 + d / 4)).toNat = y * 16 + d / 4 := by simp; omega
        rw [b64E, eb, (ih t).2.2.2 (d % 4) ((y * 16 + d / 4) % 16) (by omega) (by omega) h1, show (y * 16 + d / 4) / 16 = y by omega, show (y * 16 + d / 4) % 16 * 4 + d % 4 = d by omega, e]
    · rw [b64D] at h
      cases hc : b64Val c with
      | none => rw [hc] at h; cases h
      | some d =>
        rw [hc] at h
        simp only [Option.bind_some, Option.map_eq_some_iff] at h
        obtain ⟨e, hd⟩ := b64Dig_val hc
        obtain ⟨t, h1, rfl⟩ := h
        have eb : (UInt8.ofNat (y * 64 + d)).toNat = y * 64 + d := by simp; omega
        rw [b64E, eb, (ih t).1 h1, show (y * 64 + d) / 64 = y by omega, show (y * 64 + d) % 64 = d by omega, e]
        all_goals omega
theorem b64_forth (t v : List UInt8) (h : b64D t 0 0 = some v) : b64L v = t := (b64_forth4 t v).1 h
/-- The length of a form. -/
theorem b64E_length3 (l : List UInt8) : (∀ x, (b64E l 0 x).length = (4 * l.length + 2) / 3) ∧ (∀ x, (b64E l 2 x).length = (4 * l.length + 3) / 3) ∧ (∀ x, (b64E l 4 x).length = (4 * l.length + 4) / 3) := by
  induction l with
  | nil => simp [b64E]
  | cons c r ih =>
    obtain ⟨h0, h2, h4⟩ := ih
    refine ⟨fun x => ?_, fun x => ?_, fun x => ?_⟩
    · rw [b64E, List.length_cons, h2, List.length_cons]; omega
    · rw [b64E, List.length_cons, h4, List.length_cons]; omega
    · rw [b64E, List.length_cons, List.length_cons, h0, List.length_cons]; omega
      all_goals omega
theorem b64L_length (l : List UInt8) : (b64L l).length = (4 * l.length + 2) / 3 := (b64E_length3 l).1 0
/-- The base64 form of a string. -/
def b64S (s : ByteArray) : ByteArray := ⟨(b64L s.data.toList).toArray⟩
/-- The string with a base64 form. -/
def readB64O (s : ByteArray) : Option ByteArray := (b64D s.data.toList 0 0).map fun l => ⟨l.toArray⟩
theorem readB64_b64 (s : ByteArray) : readB64O (b64S s) = some s := by
  simp [readB64O, b64S, b64_back]
theorem b64_readB64 {t s : ByteArray} (h : readB64O t = some s) : b64S s = t := by
  simp only [readB64O, Option.map_eq_some_iff] at h
  obtain ⟨l, h, rfl⟩ := h
  have := b64_forth _ _ h
  apply ByteArray.ext
  simp [b64S, this]
theorem b64S_inj {s t : ByteArray} (h : b64S s = b64S t) : s = t := by
  have := readB64_b64 s
  rw [h, readB64_b64] at this
  exact (Option.some.inj this).symm
theorem b64S_size (s : ByteArray) : (b64S s).size = (4 * s.size + 2) / 3 := by
  show (b64L s.data.toList).toArray.size = _
  simp [b64L_length]
def readB64S (s : ByteArray) : ByteArray := (readB64O s).getD ByteArray.empty
def readB64Err (s : ByteArray) : Int := if (readB64O s).isSome then 0 else 4
end Go.Proofs.YtnkblimmlkidcaaDoor
