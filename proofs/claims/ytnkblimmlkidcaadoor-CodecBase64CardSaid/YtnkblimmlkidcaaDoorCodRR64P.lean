/- Plain: base64 forms read four letters at a time. -/
import Derived.Test.YtnkblimmlkidcaaDoorCodRef64
import Derived.Test.YtnkblimmlkidcaaDoorCodR64
namespace Go.Proofs.YtnkblimmlkidcaaDoor
open Go.RowKit

/-- The value of the letter at j, 0 behind the end. -/
def valAt (l : List UInt8) (j : Nat) : Option Nat := match l[j]? with
  | none => some 0
  | some c => b64Val c
/-- The first j letters as one number. -/
def accO (l : List UInt8) : Nat → Option Nat
  | 0 => some 0
  | j + 1 => (accO l j).bind fun n => (valAt l j).map fun v => n * 64 + v
/-- The bytes of k letters that make n. -/
def grpL (n k : Nat) : List UInt8 := UInt8.ofNat (n / 65536) :: ((if 2 < k then [UInt8.ofNat (n / 256 % 256)] else []) ++ (if 3 < k then [UInt8.ofNat (n % 256)] else []))
/-- What the reference reads ahead of its last test. -/
def laxL (l : List UInt8) : Option (List UInt8) :=
  if h : l = [] then some [] else
    have _hp := List.length_pos_iff.2 h
    (accO l 4).bind fun n => if l.length = 1 then none else (laxL (l.drop 4)).map fun t => grpL n (min 4 l.length) ++ t
termination_by l.length
decreasing_by
  simp; omega
theorem laxL_nil : laxL [] = some [] := by rw [laxL, dif_pos rfl]
theorem laxL_else {l : List UInt8} (h : l ≠ []) : laxL l = (accO l 4).bind fun n => if l.length = 1 then none else (laxL (l.drop 4)).map fun t => grpL n (min 4 l.length) ++ t := by
  rw [laxL, dif_neg h]
theorem acc_none {l : List UInt8} {j : Nat} (h : valAt l j = none) (hj : j < 4) : accO l 4 = none := by
  have h1 : accO l (j + 1) = none := by
    rw [accO, h]
    cases accO l j <;> rfl
  have hs : ∀ i, accO l i = none → accO l (i + 1) = none := fun i hi => by rw [accO, hi]; rfl
  have h4 : j = 0 ∨ j = 1 ∨ j = 2 ∨ j = 3 := by omega
  rcases h4 with rfl | rfl | rfl | rfl
  · exact hs 3 (hs 2 (hs 1 h1))
  · exact hs 3 (hs 2 h1)
  · exact hs 3 h1
  · exact h1
theorem grp4 (x y z u : Nat) (hz : z < 64) (hu : u < 64) : grpL ((((0 * 64 + x) * 64 + y) * 64 + z) * 64 + u) 4 = [UInt8.ofNat (x * 4 + y / 16), UInt8.ofNat (y % 16 * 16 + z / 4), UInt8.ofNat (z % 4 * 64 + u)] := by
  have e1 : ((((0 * 64 + x) * 64 + y) * 64 + z) * 64 + u) / 65536 = x * 4 + y / 16 := by omega
  have e2 : ((((0 * 64 + x) * 64 + y) * 64 + z) * 64 + u) / 256 % 256 = y % 16 * 16 + z / 4 := by omega
  have e3 : ((((0 * 64 + x) * 64 + y) * 64 + z) * 64 + u) % 256 = z % 4 * 64 + u := by omega
  rw [grpL, e1, e2, e3]; rfl
theorem grp3 (x y z : Nat) (hz : z < 64) : grpL ((((0 * 64 + x) * 64 + y) * 64 + z) * 64 + 0) 3 = [UInt8.ofNat (x * 4 + y / 16), UInt8.ofNat (y % 16 * 16 + z / 4)] := by
  have e1 : ((((0 * 64 + x) * 64 + y) * 64 + z) * 64 + 0) / 65536 = x * 4 + y / 16 := by omega
  have e2 : ((((0 * 64 + x) * 64 + y) * 64 + z) * 64 + 0) / 256 % 256 = y % 16 * 16 + z / 4 := by omega
  rw [grpL, e1, e2]; rfl
theorem grp2 (x y : Nat) : grpL ((((0 * 64 + x) * 64 + y) * 64 + 0) * 64 + 0) 2 = [UInt8.ofNat (x * 4 + y / 16)] := by
  have e1 : ((((0 * 64 + x) * 64 + y) * 64 + 0) * 64 + 0) / 65536 = x * 4 + y / 16 := by omega
  rw [grpL, e1]; rfl
theorem u8_mod (a b : Nat) (h : a % 256 = b % 256) : UInt8.ofNat a = UInt8.ofNat b := by
  apply UInt8.toNat_inj.1
  simp only [UInt8.toNat_ofNat']
  exact h
theorem b64_lax (n : Nat) : ∀ (t v : List UInt8), t.length ≤ n → b64D t 0 0 = some v → laxL t = some v := by
  induction n with
  | zero =>
    intro t v hl h
    have : t = [] := List.eq_nil_of_length_eq_zero (by omega)
    subst this
    simp [b64D] at h; subst h; exact laxL_nil
  | succ n ih =>
    intro t v hl h
    match t, hl, h with
    | [], _, h => simp [b64D] at h; subst h; exact laxL_nil
    | [a], _, h =>
      rw [b64D] at h
      cases ha : b64Val a with
      | none => rw [ha] at h; cases h
      | some x => rw [ha] at h; simp [b64D] at h
    | [a, b], _, h =>
      rw [b64D] at h
      cases ha : b64Val a with
      | none => rw [ha] at h; cases h
      | some x =>
        have hx := b64Val_lt ha
        rw [ha, Option.bind_some, b64D] at h
        · cases hb : b64Val b with
          | none => rw [hb] at h; cases h
          | some y =>
            have hy := b64Val_lt hb
            rw [hb, Option.bind_some, b64D] at h
            by_cases hz : y % 16 = 0
            · rw [if_pos ⟨by omega, hz⟩] at h
              simp only [Option.map_some, Option.some.injEq] at h; subst h
              rw [laxL_else (by simp)]
              simp only [accO, valAt, ha, hb, List.getElem?_cons_zero, List.getElem?_cons_succ, List.getElem?_nil, Option.bind_some, Option.map_some]
              rw [if_neg (by simp), show List.drop 4 [a, b] = [] from rfl, laxL_nil, show min 4 [a, b].length = 2 from rfl, grp2 x y]
              simp only [Option.map_some, List.append_nil]
              rw [u8_mod (x * 4 + y / 16) ((0 * 64 + x) * 4 + y / 16) (by omega)]
            · rw [if_neg (by omega)] at h; cases h
        all_goals omega
    | [a, b, c], _, h =>
      rw [b64D] at h
      cases ha : b64Val a with
      | none => rw [ha] at h; cases h
      | some x =>
        have hx := b64Val_lt ha
        rw [ha, Option.bind_some, b64D] at h
        · cases hb : b64Val b with
          | none => rw [hb] at h; cases h
          | some y =>
            have hy := b64Val_lt hb
            rw [hb, Option.bind_some, b64D] at h
            cases hc : b64Val c with
            | none => rw [hc] at h; cases h
            | some z =>
              have hz := b64Val_lt hc
              rw [hc, Option.bind_some, b64D] at h
              by_cases hz0 : z % 4 = 0
              · rw [if_pos ⟨by omega, hz0⟩] at h
                simp only [Option.map_some, Option.some.injEq] at h; subst h
                rw [laxL_else (by simp)]
                simp only [accO, valAt, ha, hb, hc, List.getElem?_cons_zero, List.getElem?_cons_succ, List.getElem?_nil, Option.bind_some, Option.map_some]
                rw [if_neg (by simp), show List.drop 4 [a, b, c] = [] from rfl, laxL_nil, show min 4 [a, b, c].length = 3 from rfl, grp3 x y z hz]
                simp only [Option.map_some, List.append_nil]
                rw [u8_mod (x * 4 + y / 16) ((0 * 64 + x) * 4 + y / 16) (by omega)]
              · rw [if_neg (by omega)] at h; cases h
        all_goals omega
    | a :: b :: c :: d :: r, hl, h =>
      rw [b64D] at h
      cases ha : b64Val a with
      | none => rw [ha] at h; cases h
      | some x =>
        have hx := b64Val_lt ha
        rw [ha, Option.bind_some, b64D] at h
        · cases hb : b64Val b with
          | none => rw [hb] at h; cases h
          | some y =>
            have hy := b64Val_lt hb
            rw [hb, Option.bind_some, b64D] at h
            cases hc : b64Val c with
            | none => rw [hc] at h; cases h
            | some z =>
              have hz := b64Val_lt hc
              rw [hc, Option.bind_some, b64D] at h
              cases hd : b64Val d with
              | none => rw [hd] at h; cases h
              | some u =>
                have hu := b64Val_lt hd
                rw [hd, Option.bind_some] at h
                simp only [Option.map_map, Option.map_eq_some_iff] at h
                obtain ⟨w, hw, rfl⟩ := h
                have hi := ih r w (by simp at hl; omega) hw
                rw [laxL_else (by simp)]
                simp only [accO, valAt, ha, hb, hc, hd, List.getElem?_cons_zero, List.getElem?_cons_succ, Option.bind_some, Option.map_some]
                rw [if_neg (by simp), List.drop_succ_cons, List.drop_succ_cons, List.drop_succ_cons, List.drop_succ_cons, List.drop_zero, hi]
                have em : min 4 (a :: b :: c :: d :: r).length = 4 := by simp
                rw [em]
                rw [grp4 x y z u hz hu]
                simp only [Option.map_some, List.cons_append, List.nil_append]
                rw [u8_mod (x * 4 + y / 16) ((0 * 64 + x) * 4 + y / 16) (by omega)]
                rfl
        all_goals omega
/-- What the reference's last test leaves. -/
theorem lax_none {s : ByteArray} (h : laxL s.data.toList = none) : readB64O s = none := by
  unfold readB64O
  cases hb : b64D s.data.toList 0 0 with
  | none => rfl
  | some v => rw [b64_lax _ _ v (Nat.le_refl _) hb] at h; cases h
theorem lax_same {s : ByteArray} {v : List UInt8} (h : b64S ⟨v.toArray⟩ = s) : readB64O s = some ⟨v.toArray⟩ := by
  rw [← h, readB64_b64]
theorem lax_other {s : ByteArray} {v : List UInt8} (hl : laxL s.data.toList = some v) (h : b64S ⟨v.toArray⟩ ≠ s) : readB64O s = none := by
  cases hr : readB64O s with
  | none => rfl
  | some t =>
    exfalso
    have h1 := b64_readB64 hr
    simp only [readB64O, Option.map_eq_some_iff] at hr
    obtain ⟨m, hm, rfl⟩ := hr
    rw [b64_lax _ _ m (Nat.le_refl _) hm] at hl
    cases hl
    exact h h1
theorem laxL_len (n : Nat) : ∀ (t v : List UInt8), t.length ≤ n → laxL t = some v → v.length ≤ t.length := by
  induction n with
  | zero =>
    intro t v hl h
    have : t = [] := List.eq_nil_of_length_eq_zero (by omega)
    subst this
    rw [laxL_nil] at h; cases h; exact Nat.le_refl _
  | succ n ih =>
    intro t v hl h
    by_cases ht : t = []
    · subst ht; rw [laxL_nil] at h; cases h; exact Nat.le_refl _
    · rw [laxL_else ht] at h
      have hp := List.length_pos_iff.2 ht
      cases ha : accO t 4 with
      | none => rw [ha] at h; cases h
      | some m =>
        rw [ha, Option.bind_some] at h
        by_cases h1 : t.length = 1
        · rw [if_pos h1] at h; cases h
        · rw [if_neg h1, Option.map_eq_some_iff] at h
          obtain ⟨w, hw, rfl⟩ := h
          have := ih (t.drop 4) w (by simp; omega) hw
          have hg : (grpL m (min 4 t.length)).length ≤ min 4 t.length := by
            unfold grpL
            split <;> split <;> simp <;> omega
          simp at this ⊢; omega
end Go.Proofs.YtnkblimmlkidcaaDoor
