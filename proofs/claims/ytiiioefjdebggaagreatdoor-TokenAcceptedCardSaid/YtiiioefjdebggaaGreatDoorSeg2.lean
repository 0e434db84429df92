/- Joined: ClmPtrs, CodEsc, CodList, CodStrs, ClmLines, Idx, CodSplitP, CodSplitS, Builder, CodPlain, CodB64, CodR64, CodEscW. -/
import Derived.Test.YtiiioefjdebggaaGreatDoorSeg1
import Derived.StillTailTactics
import Derived.WalkKit
import Derived.Lib.Strings
import Derived.Lib.Bytealg
import Derived.Lib.IndexBytes
import Derived.Test.YtiiioefjdebggaaGreatDoorShelf
import Derived.Laws.OwnMore
import Derived.IntWalk
import Derived.Lib.Builder
import Derived.Lib.AppendStr
import Derived.Lib.UnsafeStr
import Derived.Lib.Walk
import Derived.Laws.Externs
import Derived.Outline
import Derived.Laws.BitsAllLaws
import Derived.Deep.QuietTactic
import Derived.BigQuiet
/- The arrays of pointers to the fields of claims. -/
namespace Go.Proofs.YtiiioefjdebggaaGreatDoor
open Go.RowKit

/-- A pointer to a field. -/
def fldP (b k : Nat) : Value := .pointer (some ⟨b, k, none⟩)
def textsV (b : Nat) : Value := .agg #[.pointer (some ⟨b, 0, none⟩), .pointer (some ⟨b, 1, none⟩), .pointer (some ⟨b, 2, none⟩), .pointer (some ⟨b, 3, none⟩), .pointer (some ⟨b, 4, none⟩), .pointer (some ⟨b, 5, none⟩), .pointer (some ⟨b, 6, none⟩), .pointer (some ⟨b, 7, none⟩)]
def listsV (b : Nat) : Value := .agg #[.pointer (some ⟨b, 8, none⟩), .pointer (some ⟨b, 9, none⟩), .pointer (some ⟨b, 10, none⟩)]
def numbersV (b : Nat) : Value := .agg #[.pointer (some ⟨b, 11, none⟩), .pointer (some ⟨b, 12, none⟩), .pointer (some ⟨b, 13, none⟩), .pointer (some ⟨b, 14, none⟩), .pointer (some ⟨b, 15, none⟩)]
set_option maxRecDepth 100000 in
theorem texts_any (b : Nat) (w : World) :
    Calls Tryz.prog 72 #[.pointer (some ⟨b, 0, none⟩)] w fun e w' => e = .returned (textsV b) ∧ Below w.heap.size w w' := by
  go_enter Tryz.func72, Tryz.ntmps72
  go_wp2_with fail
  go_still_tail 25, (by kernel_rfl)
  change wpList _ _ _ _ _ (World.drew (World.alloc w _))
  go_wp2_with fail
  refine bodyPost_ret (v := textsV b) (by simp [results, Tryz.results72, go_sem, textsV]) rfl ⟨rfl, ?_⟩
  exact ((Below.refl _ _).alloc (Nat.le_refl _) _).drew
set_option maxRecDepth 100000 in
theorem lists_any (b : Nat) (w : World) :
    Calls Tryz.prog 73 #[.pointer (some ⟨b, 0, none⟩)] w fun e w' => e = .returned (listsV b) ∧ Below w.heap.size w w' := by
  go_enter Tryz.func73, Tryz.ntmps73
  go_wp2_with fail
  go_still_tail 10, (by kernel_rfl)
  change wpList _ _ _ _ _ (World.drew (World.alloc w _))
  go_wp2_with fail
  refine bodyPost_ret (v := listsV b) (by simp [results, Tryz.results73, go_sem, listsV]) rfl ⟨rfl, ?_⟩
  exact ((Below.refl _ _).alloc (Nat.le_refl _) _).drew
set_option maxRecDepth 100000 in
theorem numbers_any (b : Nat) (w : World) :
    Calls Tryz.prog 75 #[.pointer (some ⟨b, 0, none⟩)] w fun e w' => e = .returned (numbersV b) ∧ Below w.heap.size w w' := by
  go_enter Tryz.func75, Tryz.ntmps75
  go_wp2_with fail
  go_still_tail 16, (by kernel_rfl)
  change wpList _ _ _ _ _ (World.drew (World.alloc w _))
  go_wp2_with fail
  refine bodyPost_ret (v := numbersV b) (by simp [results, Tryz.results75, go_sem, numbersV]) rfl ⟨rfl, ?_⟩
  exact ((Below.refl _ _).alloc (Nat.le_refl _) _).drew
/- What stands at a place of these arrays. -/
theorem idx_texts (b k : Nat) (hk : k < 8) (w : World) : (Instr.index 89 (textsV b) (.int .i64 (k : Int))).run Tryz.prog w = .ok (.pointer (some ⟨b, k, none⟩)) w := by
  rcases k with _|_|_|_|_|_|_|_|k <;> first | omega | kernel_rfl
theorem idx_lists (b k : Nat) (hk : k < 3) (w : World) : (Instr.index 93 (listsV b) (.int .i64 (k : Int))).run Tryz.prog w = .ok (.pointer (some ⟨b, 8 + k, none⟩)) w := by
  rcases k with _|_|_|k <;> first | omega | kernel_rfl
theorem idx_numbers (b k : Nat) (hk : k < 5) (w : World) : (Instr.index 96 (numbersV b) (.int .i64 (k : Int))).run Tryz.prog w = .ok (.pointer (some ⟨b, 11 + k, none⟩)) w := by
  rcases k with _|_|_|_|_|k <;> first | omega | kernel_rfl
/- The fields by number. -/
def strAt (c : Cl) (k : Nat) : ByteArray := [c.kind, c.issuer, c.subject, c.client, c.tenant, c.id, c.session, c.nonce].getD k ⟨#[]⟩
def lstAt (c : Cl) (k : Nat) : List ByteArray := [c.aud, c.sco, c.act].getD k []
def adrAt (p : P3) (k : Nat) : Option Addr := [p.a1, p.a2, p.a3].getD k none
def capAt (p : P3) (k : Nat) : Nat := [p.c1, p.c2, p.c3].getD k 0
def numAt (c : Cl) (k : Nat) : Int := [c.issued, c.nb, c.exp, c.auth, c.level].getD k 0
theorem ClBox.str {w : World} {b : Nat} {c : Cl} {p : P3} (h : ClBox w b c p) (k : Nat) (hk : k < 8) : w.cell? ⟨b, k, none⟩ = some (.string (strAt c k)) := by
  obtain ⟨x0, x1, x2, x3, x4, x5, x6, x7, _⟩ := h.cells
  rcases k with _|_|_|_|_|_|_|_|k <;> first | omega | assumption
theorem ClBox.lst {w : World} {b : Nat} {c : Cl} {p : P3} (h : ClBox w b c p) (k : Nat) (hk : k < 3) : w.cell? ⟨b, 8 + k, none⟩ = some (.slice (adrAt p k) (lstAt c k).length (capAt p k)) := by
  obtain ⟨_, _, _, _, _, _, _, _, x8, x9, x10, _⟩ := h.cells
  rcases k with _|_|_|k <;> first | omega | assumption
theorem ClBox.num {w : World} {b : Nat} {c : Cl} {p : P3} (h : ClBox w b c p) (k : Nat) (hk : k < 5) : w.cell? ⟨b, 11 + k, none⟩ = some (.int .i64 (numAt c k)) := by
  obtain ⟨_, _, _, _, _, _, _, _, _, _, _, x11, x12, x13, x14, x15⟩ := h.cells
  rcases k with _|_|_|_|_|k <;> first | omega | assumption
theorem ClAt.lst {w : World} {c : Cl} {p : P3} (h : ClAt w c p) (k : Nat) (hk : k < 3) : Strs w (adrAt p k) (lstAt c k) := by
  obtain ⟨h1, h2, h3⟩ := h
  rcases k with _|_|_|k <;> first | omega | assumption
theorem ClIn.lst {c : Cl} {p : P3} (h : ClIn c p) (k : Nat) (hk : k < 3) : (lstAt c k).length ≤ capAt p k ∧ (lstAt c k).length ≤ 9223372036854775807 ∧ ∀ s ∈ lstAt c k, s.size ≤ 9223372036854775807 := by
  rcases k with _|_|_|k
  · exact ⟨h.l1, h.m1, h.z1⟩
  · exact ⟨h.l2, h.m2, h.z2⟩
  · exact ⟨h.l3, h.m3, h.z3⟩
  · omega
theorem ClIn.str {c : Cl} {p : P3} (h : ClIn c p) (k : Nat) : (strAt c k).size ≤ 9223372036854775807 := by
  obtain ⟨s0, s1, s2, s3, s4, s5, s6, s7, _⟩ := h
  rcases k with _|_|_|_|_|_|_|_|k <;> first | assumption | (show (0 : Nat) ≤ _; omega)
theorem ClIn.num {c : Cl} {p : P3} (h : ClIn c p) (k : Nat) (hk : k < 5) : -9223372036854775808 ≤ numAt c k ∧ numAt c k ≤ 9223372036854775807 := by
  have i0 := h.i0
  have i1 := h.i1
  have i2 := h.i2
  have i3 := h.i3
  have i4 := h.i4
  rcases k with _|_|_|_|_|k <;> first | assumption | omega
end Go.Proofs.YtiiioefjdebggaaGreatDoor

/- Plain functions for the layer codec: the escaped form. No program in sight. -/
namespace Go.Proofs.YtiiioefjdebggaaGreatDoor
open Go.RowKit

/-- A byte that is written as it is. -/
def plainB (c : UInt8) : Bool := decide (33 ≤ c.toNat ∧ c.toNat ≤ 126 ∧ c.toNat ≠ 37 ∧ c.toNat ≠ 124 ∧ c.toNat ≠ 44 ∧ c.toNat ≠ 61 ∧ c.toNat ≠ 59 ∧ c.toNat ≠ 34)
/-- The digit with a value below 16. -/
def hexU (d : Nat) : UInt8 := if d < 10 then UInt8.ofNat (48 + d) else UInt8.ofNat (55 + d)
/-- The value of a digit. -/
def hexV (c : UInt8) : Option Nat := if 48 ≤ c.toNat ∧ c.toNat ≤ 57 then some (c.toNat - 48) else if 65 ≤ c.toNat ∧ c.toNat ≤ 70 then some (c.toNat - 55) else none
theorem hexV_dig (d : Nat) (h : d < 16) : hexV (hexU d) = some d := by
  have : ∀ d : Fin 16, hexV (hexU d.1) = some d.1 := by decide +kernel
  exact this ⟨d, h⟩
theorem hexU_val {c : UInt8} {d : Nat} (h : hexV c = some d) : hexU d = c ∧ d < 16 := by
  have : ∀ n : Fin 256, ∀ d, hexV (UInt8.ofNat n.1) = some d → hexU d = UInt8.ofNat n.1 ∧ d < 16 := by
    intro n d hd
    have : ∀ n : Fin 256, (match hexV (UInt8.ofNat n.1) with | none => true | some d => decide (hexU d = UInt8.ofNat n.1 ∧ d < 16)) = true := by decide +kernel
    have := this n
    rw [hd] at this
    simpa using this
  have h2 := this ⟨c.toNat, c.toNat_lt⟩ d
  simp at h2
  exact h2 h
theorem plainB_pct : plainB 37 = false := by decide
theorem hexU_plain (d : Nat) (h : d < 16) : plainB (hexU d) = true := by
  have : ∀ d : Fin 16, plainB (hexU d.1) = true := by decide +kernel
  exact this ⟨d, h⟩

/-- A byte, written. -/
def escC (c : UInt8) : List UInt8 := if plainB c then [c] else [37, hexU (c.toNat / 16), hexU (c.toNat % 16)]
def escL : List UInt8 → List UInt8
  | [] => []
  | c :: r => escC c ++ escL r
theorem escL_append (a b : List UInt8) : escL (a ++ b) = escL a ++ escL b := by
  induction a with
  | nil => rfl
  | cons c r ih => simp [escL, ih]
theorem escC_length (c : UInt8) : (escC c).length ≤ 3 := by unfold escC; split <;> simp
theorem escL_length (l : List UInt8) : (escL l).length ≤ 3 * l.length := by
  induction l with
  | nil => simp [escL]
  | cons c r ih => have := escC_length c; simp [escL]; omega
/-- The bytes of a form. State 0: between two bytes; 1: behind a sign of escape; n + 2: behind it and a digit of value n. -/
def unE : List UInt8 → Nat → Option (List UInt8)
  | [], 0 => some []
  | [], _ + 1 => none
  | c :: r, 0 => if plainB c then (unE r 0).map (c :: ·) else if c = 37 then unE r 1 else none
  | c :: r, 1 => (hexV c).bind fun a => unE r (a + 2)
  | c :: r, n + 2 => (hexV c).bind fun b => if plainB (UInt8.ofNat (n * 16 + b)) then none else (unE r 0).map (UInt8.ofNat (n * 16 + b) :: ·)
theorem unE_esc (l : List UInt8) : unE (escL l) 0 = some l := by
  induction l with
  | nil => rfl
  | cons c r ih =>
    have hc := c.toNat_lt
    have e : UInt8.ofNat (c.toNat / 16 * 16 + c.toNat % 16) = c := by
      rw [show c.toNat / 16 * 16 + c.toNat % 16 = c.toNat by omega]; simp
    rw [escL, escC]
    by_cases h : plainB c = true
    · rw [if_pos h]; simp [unE, h, ih]
    · rw [if_neg h]
      show unE (37 :: hexU (c.toNat / 16) :: hexU (c.toNat % 16) :: escL r) 0 = _
      rw [unE, if_neg (by rw [plainB_pct]; simp), if_pos rfl, unE, hexV_dig _ (by omega), Option.bind_some, unE, hexV_dig _ (by omega), Option.bind_some, e, if_neg h, ih]
      rfl
theorem esc_unE (t : List UInt8) : ∀ v, (unE t 0 = some v → escL v = t) ∧ (unE t 1 = some v → escL v = 37 :: t) ∧ (∀ a, a < 16 → unE t (a + 2) = some v → escL v = 37 :: hexU a :: t) := by
  induction t with
  | nil =>
    intro v
    refine ⟨fun h => ?_, fun h => ?_, fun a ha h => ?_⟩
    · simp [unE] at h; subst h; rfl
    · simp [unE] at h
    · simp [unE] at h
  | cons c r ih =>
    intro v
    refine ⟨fun h => ?_, fun h => ?_, fun a ha h => ?_⟩
    · rw [unE] at h
      split at h
      · rename_i hp
        rw [Option.map_eq_some_iff] at h
        obtain ⟨t, h1, rfl⟩ := h
        rw [escL, (ih t).1 h1, escC, if_pos hp]; rfl
      · split at h
        · rename_i h37; rw [(ih v).2.1 h, h37]
        · cases h
    · rw [unE] at h
      cases hc : hexV c with
      | none => rw [hc] at h; cases h
      | some d =>
        rw [hc, Option.bind_some] at h
        obtain ⟨e, hd⟩ := hexU_val hc
        rw [(ih v).2.2 d hd h, e]
    · rw [unE] at h
      cases hc : hexV c with
      | none => rw [hc] at h; cases h
      | some d =>
        rw [hc, Option.bind_some] at h
        obtain ⟨e, hd⟩ := hexU_val hc
        split at h
        · cases h
        · rename_i hp
          rw [Option.map_eq_some_iff] at h
          obtain ⟨t, h1, rfl⟩ := h
          have eb : (UInt8.ofNat (a * 16 + d)).toNat = a * 16 + d := by simp; omega
          rw [escL, (ih t).1 h1, escC, if_neg hp, eb, show (a * 16 + d) / 16 = a by omega, show (a * 16 + d) % 16 = d by omega, e]; rfl
theorem unE_forth {t v : List UInt8} (h : unE t 0 = some v) : escL v = t := (esc_unE t v).1 h
theorem unE_length (t : List UInt8) : ∀ n v, unE t n = some v → v.length ≤ t.length := by
  induction t with
  | nil => intro n v h; cases n with
    | zero => simp [unE] at h; subst h; simp
    | succ n => simp [unE] at h
  | cons c r ih =>
    intro n v h
    rcases n with _ | _ | n
    · rw [unE] at h
      split at h
      · rw [Option.map_eq_some_iff] at h
        obtain ⟨t, h1, rfl⟩ := h
        have := ih _ _ h1; simp; omega
      · split at h
        · have := ih _ _ h; simp; omega
        · cases h
    · rw [unE] at h
      cases hc : hexV c with
      | none => rw [hc] at h; cases h
      | some d => rw [hc, Option.bind_some] at h; have := ih _ _ h; simp; omega
    · rw [unE] at h
      cases hc : hexV c with
      | none => rw [hc] at h; cases h
      | some d =>
        rw [hc, Option.bind_some] at h
        split at h
        · cases h
        · rw [Option.map_eq_some_iff] at h
          obtain ⟨t, h1, rfl⟩ := h
          have := ih _ _ h1; simp; omega

/-- The same without the look at what a digit pair gives: what the reference reads before it compares. -/
def rawE : List UInt8 → Nat → Option (List UInt8)
  | [], 0 => some []
  | [], _ + 1 => none
  | c :: r, 0 => if c = 37 then rawE r 1 else (rawE r 0).map (c :: ·)
  | c :: r, 1 => (hexV c).bind fun a => rawE r (a + 2)
  | c :: r, n + 2 => (hexV c).bind fun b => (rawE r 0).map (UInt8.ofNat (n * 16 + b) :: ·)
theorem raw_of_unE (t : List UInt8) : ∀ n v, unE t n = some v → rawE t n = some v := by
  induction t with
  | nil => intro n v h; cases n with
    | zero => exact h
    | succ n => simp [unE] at h
  | cons c r ih =>
    intro n v h
    rcases n with _ | _ | n
    · rw [unE] at h
      rw [rawE]
      split at h
      · rename_i hp
        have h37 : c ≠ 37 := fun e => by rw [e] at hp; cases hp
        rw [if_neg h37]
        rw [Option.map_eq_some_iff] at h
        obtain ⟨t, h1, rfl⟩ := h
        rw [ih _ _ h1]; rfl
      · split at h
        · rename_i h37; rw [if_pos h37]; exact ih _ _ h
        · cases h
    · rw [unE] at h
      rw [rawE]
      cases hc : hexV c with
      | none => rw [hc] at h; cases h
      | some d => rw [hc, Option.bind_some] at h; exact ih _ _ h
    · rw [unE] at h
      rw [rawE]
      cases hc : hexV c with
      | none => rw [hc] at h; cases h
      | some d =>
        rw [hc, Option.bind_some] at h
        split at h
        · cases h
        · rw [Option.map_eq_some_iff] at h
          obtain ⟨t, h1, rfl⟩ := h
          show (rawE r 0).map _ = _
          rw [ih _ _ h1]; rfl
/-- The reference's way of reading gives the same. -/
theorem raw_same (t : List UInt8) : unE t 0 = (rawE t 0).bind fun v => if escL v = t then some v else none := by
  cases h : unE t 0 with
  | some v => rw [raw_of_unE _ _ _ h, Option.bind_some, if_pos (unE_forth h)]
  | none =>
    cases hr : rawE t 0 with
    | none => rfl
    | some v =>
      rw [Option.bind_some]
      by_cases he : escL v = t
      · have := unE_esc v
        rw [he, h] at this; cases this
      · rw [if_neg he]
/-- The escaped form of a string, and the string with an escaped form. -/
def escS (s : ByteArray) : ByteArray := ⟨(escL s.data.toList).toArray⟩
def unescO (s : ByteArray) : Option ByteArray := (unE s.data.toList 0).map fun l => ⟨l.toArray⟩
theorem unesc_esc (s : ByteArray) : unescO (escS s) = some s := by simp [unescO, escS, unE_esc]
theorem esc_unesc {t s : ByteArray} (h : unescO t = some s) : escS s = t := by
  simp only [unescO, Option.map_eq_some_iff] at h
  obtain ⟨l, h, rfl⟩ := h
  apply ByteArray.ext
  simp [escS, unE_forth h]
theorem escS_append (a b : ByteArray) : escS (a ++ b) = escS a ++ escS b := by
  apply ByteArray.ext
  simp [escS, ByteArray.data_append, escL_append]
theorem escS_inj {a b : ByteArray} (h : escS a = escS b) : a = b := by
  have := unesc_esc a
  rw [h, unesc_esc] at this
  exact (Option.some.inj this).symm
theorem escS_size (s : ByteArray) : (escS s).size ≤ 3 * s.size := by
  have := escL_length s.data.toList
  show (escL s.data.toList).toArray.size ≤ 3 * s.size
  simpa using this
theorem unescO_size {t s : ByteArray} (h : unescO t = some s) : s.size ≤ t.size := by
  simp only [unescO, Option.map_eq_some_iff] at h
  obtain ⟨l, h, rfl⟩ := h
  have := unE_length _ _ _ h
  show l.toArray.size ≤ t.size
  simpa using this
def unescS (s : ByteArray) : ByteArray := (unescO s).getD ByteArray.empty
def unescE (s : ByteArray) : Int := if (unescO s).isSome then 0 else 4
end Go.Proofs.YtiiioefjdebggaaGreatDoor

/- Plain functions for the layer codec: lists and pairs. No program in sight. -/
namespace Go.Proofs.YtiiioefjdebggaaGreatDoor
open Go.RowKit

/-- The pieces of a list of bytes between the bytes c. -/
def cutL (c : UInt8) : List UInt8 → List (List UInt8)
  | [] => [[]]
  | x :: r => if x = c then [] :: cutL c r else match cutL c r with
    | [] => [[x]]
    | p :: ps => (x :: p) :: ps
/-- The pieces with a byte c between them. -/
def joinL (c : UInt8) : List (List UInt8) → List UInt8
  | [] => []
  | [p] => p
  | p :: q :: r => p ++ c :: joinL c (q :: r)
theorem cutL_ne (c : UInt8) (l : List UInt8) : cutL c l ≠ [] := by
  cases l with
  | nil => simp [cutL]
  | cons x r =>
    rw [cutL]
    split
    · simp
    · split <;> simp
theorem joinL_cons (c : UInt8) (p : List UInt8) (ps : List (List UInt8)) (h : ps ≠ []) : joinL c (p :: ps) = p ++ c :: joinL c ps := by
  cases ps with
  | nil => exact absurd rfl h
  | cons q r => rfl
theorem join_cut (c : UInt8) (l : List UInt8) : joinL c (cutL c l) = l := by
  induction l with
  | nil => rfl
  | cons x r ih =>
    rw [cutL]
    split
    · rename_i h; rw [joinL_cons c _ _ (cutL_ne c r), ih, h]; rfl
    · have hne := cutL_ne c r
      cases hc : cutL c r with
      | nil => exact absurd hc hne
      | cons p ps =>
        rw [hc] at ih
        cases ps with
        | nil => simp only [joinL] at ih ⊢; rw [ih]
        | cons q ps => rw [joinL_cons c _ _ (by simp)] at ih ⊢; rw [← ih]; rfl
theorem cutL_nil {c : UInt8} {l : List UInt8} (h : c ∉ l) : cutL c l = [l] := by
  induction l with
  | nil => rfl
  | cons x r ih =>
    rw [cutL, if_neg (fun e => h (by rw [e]; simp)), ih (fun hm => h (List.mem_cons_of_mem _ hm))]
theorem cutL_app {c : UInt8} {p : List UInt8} (h : c ∉ p) (l : List UInt8) : cutL c (p ++ c :: l) = p :: cutL c l := by
  induction p with
  | nil => simp [cutL]
  | cons x r ih =>
    rw [List.cons_append, cutL, if_neg (fun e => h (by rw [e]; simp)), ih (fun hm => h (List.mem_cons_of_mem _ hm))]
theorem cut_join {c : UInt8} : ∀ (ps : List (List UInt8)), ps ≠ [] → (∀ p ∈ ps, c ∉ p) → cutL c (joinL c ps) = ps
  | [], h, _ => absurd rfl h
  | [p], _, h => cutL_nil (h p (by simp))
  | p :: q :: r, _, h => by
    rw [joinL, cutL_app (h p (by simp)), cut_join (q :: r) (by simp) (fun x hx => h x (List.mem_cons_of_mem _ hx))]
theorem cutL_mem (c : UInt8) (l : List UInt8) : ∀ p ∈ cutL c l, c ∉ p := by
  induction l with
  | nil => intro p hp; simp [cutL] at hp; subst hp; simp
  | cons x r ih =>
    intro p hp
    rw [cutL] at hp
    split at hp
    · rw [List.mem_cons] at hp
      rcases hp with rfl | hp
      · simp
      · exact ih p hp
    · rename_i hx
      cases hc : cutL c r with
      | nil => exact absurd hc (cutL_ne c r)
      | cons q qs =>
        rw [hc] at hp ih
        simp only [List.mem_cons] at hp
        rcases hp with rfl | hp
        · intro hm
          rw [List.mem_cons] at hm
          rcases hm with hm | hm
          · exact hx hm.symm
          · exact ih q (by simp) hm
        · exact ih p (List.mem_cons_of_mem _ hp)
theorem escC_nosep (c d : UInt8) (h : plainB d = false) (h37 : d ≠ 37) : d ∉ escC c := by
  unfold escC
  split
  · rename_i hp
    intro hm
    simp at hm
    rw [hm, hp] at h; cases h
  · intro hm
    have hc := c.toNat_lt
    simp only [List.mem_cons, List.not_mem_nil, or_false] at hm
    rcases hm with hm | hm | hm
    · exact h37 hm
    · rw [hm, hexU_plain _ (by omega)] at h; cases h
    · rw [hm, hexU_plain _ (by omega)] at h; cases h
/-- A separator does not occur in an escaped form. -/
theorem escL_nosep (l : List UInt8) (d : UInt8) (h : plainB d = false) (h37 : d ≠ 37) : d ∉ escL l := by
  induction l with
  | nil => simp [escL]
  | cons c r ih =>
    rw [escL, List.mem_append]
    rintro (hm | hm)
    · exact escC_nosep c d h h37 hm
    · exact ih hm

/-- codec.Join on lists of bytes. -/
def joinE (l : List (List UInt8)) : List UInt8 := if l = [] then [45] else if l = [[45]] then [37, 50, 68] else joinL 124 (l.map escL)
/-- All pieces read. -/
def unAll : List (List UInt8) → Option (List (List UInt8))
  | [] => some []
  | p :: ps => (unE p 0).bind fun q => (unAll ps).map (q :: ·)
/-- codec.Split on lists of bytes. -/
def splitE (t : List UInt8) : Option (List (List UInt8)) := if t = [45] then some [] else if t = [37, 50, 68] then some [[45]] else unAll (cutL 124 t)
theorem unAll_esc (l : List (List UInt8)) : unAll (l.map escL) = some l := by
  induction l with
  | nil => rfl
  | cons p ps ih => rw [List.map_cons, unAll, unE_esc, Option.bind_some, ih]; rfl
theorem esc_unAll : ∀ (ps l : List (List UInt8)), unAll ps = some l → l.map escL = ps
  | [], l, h => by simp [unAll] at h; subst h; rfl
  | p :: ps, l, h => by
    rw [unAll] at h
    cases hp : unE p 0 with
    | none => rw [hp] at h; cases h
    | some q =>
      rw [hp, Option.bind_some, Option.map_eq_some_iff] at h
      obtain ⟨r, h1, rfl⟩ := h
      rw [List.map_cons, unE_forth hp, esc_unAll ps r h1]
theorem un_dash : unE [45] 0 = some [45] := by decide
theorem un_2d : unE [37, 50, 68] 0 = none := by decide
theorem split_join (l : List (List UInt8)) : splitE (joinE l) = some l := by
  unfold joinE
  by_cases h0 : l = []
  · rw [if_pos h0, splitE, if_pos rfl, h0]
  · rw [if_neg h0]
    by_cases h1 : l = [[45]]
    · rw [if_pos h1, splitE, if_neg (by decide), if_pos rfl, h1]
    · rw [if_neg h1]
      have hns : ∀ p ∈ l.map escL, (124 : UInt8) ∉ p := by
        intro p hp
        rw [List.mem_map] at hp
        obtain ⟨q, _, rfl⟩ := hp
        exact escL_nosep q 124 (by decide) (by decide)
      have hc : cutL 124 (joinL 124 (l.map escL)) = l.map escL := cut_join _ (by simpa using h0) hns
      have key : ∀ t, joinL 124 (l.map escL) = t → (124 : UInt8) ∉ t → l.map escL = [t] := by
        intro t ht hn
        rw [ht, cutL_nil hn] at hc
        exact hc.symm
      rw [splitE, if_neg, if_neg, hc, unAll_esc]
      · intro h
        have := key _ h (by decide)
        have h2 := unAll_esc l
        rw [this, unAll, un_2d] at h2; cases h2
      · intro h
        have := key _ h (by decide)
        have h2 := unAll_esc l
        rw [this, unAll, un_dash] at h2
        simp [unAll] at h2
        exact h1 h2.symm
theorem join_split (t : List UInt8) (l : List (List UInt8)) (h : splitE t = some l) : joinE l = t := by
  unfold splitE at h
  split at h
  · rename_i ht; cases h; rw [joinE, if_pos rfl, ht]
  · split at h
    · rename_i ht; cases h; rw [joinE, if_neg (by simp), if_pos rfl, ht]
    · rename_i h45 h2d
      have hm := esc_unAll _ _ h
      have hne : l ≠ [] := by
        intro e; rw [e] at hm
        exact cutL_ne 124 t hm.symm
      have h1 : l ≠ [[45]] := by
        intro e
        rw [e] at hm
        have hj := join_cut 124 t
        rw [← hm] at hj
        exact h45 hj.symm
      rw [joinE, if_neg hne, if_neg h1, hm, join_cut]
theorem joinE_inj {a b : List (List UInt8)} (h : joinE a = joinE b) : a = b := by
  have := split_join a
  rw [h, split_join] at this
  exact (Option.some.inj this).symm

/-- A pair, written. -/
def pairE (p : List UInt8 × List UInt8) : List UInt8 := escL p.1 ++ 61 :: escL p.2
/-- codec.Pairs on lists of bytes. -/
def pairsE (l : List (List UInt8 × List UInt8)) : List UInt8 := joinL 124 (l.map pairE)
/-- A pair, read. -/
def unPair (t : List UInt8) : Option (List UInt8 × List UInt8) :=
  if (61 : UInt8) ∈ t then (unE (t.takeWhile (· ≠ 61)) 0).bind fun k => (unE ((t.dropWhile (· ≠ 61)).tail) 0).map fun v => (k, v) else none
def unPairs : List (List UInt8) → Option (List (List UInt8 × List UInt8))
  | [] => some []
  | p :: ps => (unPair p).bind fun q => (unPairs ps).map (q :: ·)
/-- codec.ReadPairs on lists of bytes. -/
def readPairsE (t : List UInt8) : Option (List (List UInt8 × List UInt8)) := if t = [] then some [] else unPairs (cutL 124 t)
theorem take_eq {k v : List UInt8} (h : (61 : UInt8) ∉ k) : (k ++ 61 :: v).takeWhile (· ≠ 61) = k ∧ ((k ++ 61 :: v).dropWhile (· ≠ 61)).tail = v := by
  induction k with
  | nil => simp
  | cons x r ih =>
    have hx : x ≠ 61 := fun e => h (by rw [e]; simp)
    have := ih (fun hm => h (List.mem_cons_of_mem _ hm))
    simpa [hx] using this
theorem mem_parts {t : List UInt8} (h : (61 : UInt8) ∈ t) : t = t.takeWhile (· ≠ 61) ++ 61 :: (t.dropWhile (· ≠ 61)).tail ∧ (61 : UInt8) ∉ t.takeWhile (· ≠ 61) := by
  induction t with
  | nil => simp at h
  | cons x r ih =>
    by_cases hx : x = 61
    · subst hx; simp
    · have hm : (61 : UInt8) ∈ r := by
        rw [List.mem_cons] at h
        rcases h with h | h
        · exact absurd h.symm hx
        · exact h
      obtain ⟨h1, h2⟩ := ih hm
      refine ⟨?_, ?_⟩
      · simpa [hx] using h1
      · simp only [ne_eq, hx, not_false_eq_true, decide_true, List.takeWhile_cons_of_pos, List.mem_cons, not_or]
        exact ⟨fun e => hx e.symm, by simpa using h2⟩
theorem unPair_pair (p : List UInt8 × List UInt8) : unPair (pairE p) = some p := by
  obtain ⟨k, v⟩ := p
  have hk : (61 : UInt8) ∉ escL k := escL_nosep k 61 (by decide) (by decide)
  obtain ⟨h1, h2⟩ := take_eq (v := escL v) hk
  rw [unPair, pairE, if_pos (by simp), h1, h2, unE_esc, unE_esc]; rfl
theorem pair_unPair {t : List UInt8} {p : List UInt8 × List UInt8} (h : unPair t = some p) : pairE p = t := by
  unfold unPair at h
  split at h
  · rename_i hm
    obtain ⟨h1, _⟩ := mem_parts hm
    cases hk : unE (t.takeWhile (· ≠ 61)) 0 with
    | none => rw [hk] at h; cases h
    | some k =>
      rw [hk, Option.bind_some, Option.map_eq_some_iff] at h
      obtain ⟨v, hv, rfl⟩ := h
      rw [pairE, unE_forth hk, unE_forth hv, ← h1]
  · cases h
theorem unPairs_pairs (l : List (List UInt8 × List UInt8)) : unPairs (l.map pairE) = some l := by
  induction l with
  | nil => rfl
  | cons p ps ih => rw [List.map_cons, unPairs, unPair_pair, Option.bind_some, ih]; rfl
theorem pairs_unPairs : ∀ (ps : List (List UInt8)) (l : List (List UInt8 × List UInt8)), unPairs ps = some l → l.map pairE = ps
  | [], l, h => by simp [unPairs] at h; subst h; rfl
  | p :: ps, l, h => by
    rw [unPairs] at h
    cases hp : unPair p with
    | none => rw [hp] at h; cases h
    | some q =>
      rw [hp, Option.bind_some, Option.map_eq_some_iff] at h
      obtain ⟨r, h1, rfl⟩ := h
      rw [List.map_cons, pair_unPair hp, pairs_unPairs ps r h1]
theorem pairE_nosep (p : List UInt8 × List UInt8) : (124 : UInt8) ∉ pairE p := by
  rw [pairE, List.mem_append, List.mem_cons]
  rintro (hm | hm | hm)
  · exact escL_nosep _ 124 (by decide) (by decide) hm
  · cases hm
  · exact escL_nosep _ 124 (by decide) (by decide) hm
theorem pairE_ne (p : List UInt8 × List UInt8) : pairE p ≠ [] := by simp [pairE]
theorem joinL_nil {c : UInt8} {ps : List (List UInt8)} (h : joinL c ps = []) : ps = [] ∨ ps = [[]] := by
  cases ps with
  | nil => exact .inl rfl
  | cons p ps =>
    cases ps with
    | nil => right; simp only [joinL] at h; rw [h]
    | cons q r => simp [joinL] at h
theorem readPairs_pairs (l : List (List UInt8 × List UInt8)) : readPairsE (pairsE l) = some l := by
  unfold readPairsE
  by_cases h0 : l = []
  · subst h0; rfl
  · rw [if_neg, pairsE, cut_join _ (by simpa using h0), unPairs_pairs]
    · intro p hp
      rw [List.mem_map] at hp
      obtain ⟨q, _, rfl⟩ := hp
      exact pairE_nosep q
    · intro h
      rcases joinL_nil h with h | h
      · simp at h; exact h0 h
      · cases l with
        | nil => exact h0 rfl
        | cons p ps => simp at h; exact pairE_ne p h.1
theorem pairs_readPairs (t : List UInt8) (l : List (List UInt8 × List UInt8)) (h : readPairsE t = some l) : pairsE l = t := by
  unfold readPairsE at h
  split at h
  · rename_i ht; cases h; rw [ht]; rfl
  · rw [pairsE, pairs_unPairs _ _ h, join_cut]
end Go.Proofs.YtiiioefjdebggaaGreatDoor

/- The codec's lists, on strings. -/
namespace Go.Proofs.YtiiioefjdebggaaGreatDoor
open Go.RowKit

/-- A string of bytes. -/
def bsOf (l : List UInt8) : ByteArray := ⟨l.toArray⟩
theorem bsOf_list (s : ByteArray) : bsOf s.data.toList = s := by cases s; rfl
theorem list_bsOf (l : List UInt8) : (bsOf l).data.toList = l := rfl
theorem map_bsOf (l : List ByteArray) : (l.map (·.data.toList)).map bsOf = l := by
  induction l with
  | nil => rfl
  | cons a l ih => simp only [List.map_cons, bsOf_list]; rw [ih]
theorem map_list (l : List (List UInt8)) : (l.map bsOf).map (·.data.toList) = l := by
  induction l with
  | nil => rfl
  | cons a l ih => simp only [List.map_cons, list_bsOf]; rw [ih]
/-- The pieces between the bytes c. -/
def cutsL (c : UInt8) (l : List UInt8) : List ByteArray := (cutL c l).map bsOf
def cutsS (s : ByteArray) (c : UInt8) : List ByteArray := cutsL c s.data.toList
/-- Strings with a byte c between them. -/
def joinC (c : UInt8) (l : List ByteArray) : ByteArray := bsOf (joinL c (l.map (·.data.toList)))
/-- The form of a list, and its inverse. -/
def joinS (l : List ByteArray) : ByteArray := bsOf (joinE (l.map (·.data.toList)))
def splitO (s : ByteArray) : Option (List ByteArray) := (splitE s.data.toList).map (List.map bsOf)
def splitS (s : ByteArray) : List ByteArray := (splitO s).getD []
def splitErr (s : ByteArray) : Int := if (splitO s).isSome then 0 else 4
theorem split_joinS (l : List ByteArray) : splitO (joinS l) = some l := by
  simp only [splitO, joinS, list_bsOf, split_join, Option.map_some, map_bsOf]
theorem join_splitS {s : ByteArray} {l : List ByteArray} (h : splitO s = some l) : joinS l = s := by
  simp only [splitO, Option.map_eq_some_iff] at h
  obtain ⟨m, h, rfl⟩ := h
  rw [joinS, map_list, join_split _ _ h, bsOf_list]
theorem joinS_inj {a b : List ByteArray} (h : joinS a = joinS b) : a = b := by
  have := split_joinS a
  rw [h, split_joinS] at this
  exact (Option.some.inj this).symm
theorem extract_list (s : ByteArray) (f k : Nat) : (s.extract f k).data.toList = (s.data.toList.take k).drop f := by
  rw [ByteArray.data_extract, Array.toList_extract, List.extract_eq_take_drop, List.drop_take]
/-- A piece more. -/
theorem cuts_step {s : ByteArray} {c : UInt8} {f k : Nat} {P L : List ByteArray} (hf : f ≤ k) (hk : k < s.size) (hc : s[k] = c) (hn : c ∉ (s.data.toList.take k).drop f) (HP : P ++ cutsL c (s.data.toList.drop f) = L) :
    (P ++ [s.extract f k]) ++ cutsL c (s.data.toList.drop (k + 1)) = L := by
  have hl : k < s.data.toList.length := by simpa using hk
  have e : s.data.toList.drop f = (s.data.toList.take k).drop f ++ c :: s.data.toList.drop (k + 1) := by
    have h1 : s.data.toList = s.data.toList.take k ++ s.data.toList.drop k := (List.take_append_drop k _).symm
    have h2 : s.data.toList.drop k = c :: s.data.toList.drop (k + 1) := by
      rw [List.drop_eq_getElem_cons hl, ← hc]; rfl
    rw [h2] at h1
    conv => lhs; rw [h1]
    rw [List.drop_append_of_le_length (by simp; omega)]
  rw [e, cutsL, cutL_app hn, List.map_cons] at HP
  have e2 : bsOf ((s.data.toList.take k).drop f) = s.extract f k := by rw [← extract_list, bsOf_list]
  rw [e2] at HP
  rw [List.append_assoc]
  exact HP
theorem cuts_next {s : ByteArray} {c : UInt8} {f k : Nat} (hf : f ≤ k) (hk : k < s.size) (hc : s[k] ≠ c) (hn : c ∉ (s.data.toList.take k).drop f) : c ∉ (s.data.toList.take (k + 1)).drop f := by
  have hl : k < s.data.toList.length := by simpa using hk
  rw [List.take_succ_eq_append_getElem hl, List.drop_append_of_le_length (by simp; omega)]
  intro h
  rw [List.mem_append] at h
  rcases h with h | h
  · exact hn h
  · rw [List.mem_singleton] at h; exact hc h.symm
theorem cuts_end {s : ByteArray} {c : UInt8} {f k : Nat} {P L : List ByteArray} (hk : ¬ k < s.size) (hn : c ∉ (s.data.toList.take k).drop f) (HP : P ++ cutsL c (s.data.toList.drop f) = L) : P ++ [s.extract f s.size] = L := by
  have hs : s.data.toList.length = s.size := by simp
  have e2 : bsOf (s.data.toList.drop f) = s.extract f s.size := by
    rw [← bsOf_list (s.extract f s.size), extract_list, List.take_of_length_le (by omega)]
  rw [List.take_of_length_le (by omega)] at hn
  rw [cutsL, cutL_nil hn, List.map_cons, e2] at HP
  exact HP
end Go.Proofs.YtiiioefjdebggaaGreatDoor

/- Plain: lines of keys and values, as the program cuts them and as the reference reads them. -/
namespace Go.Proofs.YtiiioefjdebggaaGreatDoor
open Go.RowKit

/-- A line: key, '=', value, line feed. -/
def lineL (k v : ByteArray) : List UInt8 := k.data.toList ++ 61 :: (v.data.toList ++ [10])
def linesL : List ByteArray → List ByteArray → List UInt8
  | k :: ks, v :: vs => lineL k v ++ linesL ks vs
  | _, _ => []
theorem lines_take : ∀ (ks vs : List ByteArray) (i : Nat) (h1 : i < ks.length) (h2 : i < vs.length), linesL (ks.take (i + 1)) (vs.take (i + 1)) = linesL (ks.take i) (vs.take i) ++ lineL ks[i] vs[i]
  | [], _, _, h1, _ => absurd h1 (by simp)
  | _ :: _, [], _, _, h2 => absurd h2 (by simp)
  | k :: ks, v :: vs, 0, _, _ => by simp [linesL]
  | k :: ks, v :: vs, i + 1, h1, h2 => by
    have := lines_take ks vs i (by simpa using h1) (by simpa using h2)
    rw [List.take_succ_cons, List.take_succ_cons, List.take_succ_cons, List.take_succ_cons, linesL, linesL, this]
    simp
theorem lineL_len (k v : ByteArray) : (lineL k v).length = k.size + v.size + 2 := by
  have e : k.data.toList.length = k.size := by simp
  have e2 : v.data.toList.length = v.size := by simp
  rw [lineL, List.length_append, List.length_cons, List.length_append, e, e2]; simp; omega
theorem lines_len (M : Nat) : ∀ (ks vs : List ByteArray), (∀ k ∈ ks, k.size ≤ M) → (∀ v ∈ vs, v.size ≤ M) → (linesL ks vs).length ≤ ks.length * (2 * M + 2)
  | [], vs, _, _ => by simp [linesL]
  | k :: ks, [], _, _ => by simp [linesL]
  | k :: ks, v :: vs, h1, h2 => by
    have a := lines_len M ks vs (fun x hx => h1 x (by simp [hx])) (fun x hx => h2 x (by simp [hx]))
    have b := h1 k (by simp)
    have c := h2 v (by simp)
    rw [linesL, List.length_append, lineL_len, List.length_cons, Nat.succ_mul]; omega
/-- Each value is no longer than the lines. -/
theorem lines_ge : ∀ (ks vs : List ByteArray), vs.length ≤ ks.length → ∀ v ∈ vs, v.size ≤ (linesL ks vs).length
  | _, [], _, v, hv => by simp at hv
  | [], v :: vs, h, _, _ => by simp at h
  | k :: ks, x :: vs, h, v, hv => by
    rw [linesL, List.length_append, lineL_len]
    rcases List.mem_cons.1 hv with rfl | hv
    · omega
    · have := lines_ge ks vs (by simpa using h) v hv; omega
/-- What the program cuts at line feeds. -/
theorem cut_lines : ∀ (ks vs : List ByteArray), ks.length = vs.length → (∀ k ∈ ks, (10 : UInt8) ∉ k.data.toList) → (∀ v ∈ vs, (10 : UInt8) ∉ v.data.toList) →
    cutL 10 (linesL ks vs) = List.zipWith (fun (k v : ByteArray) => k.data.toList ++ 61 :: v.data.toList) ks vs ++ [[]]
  | [], [], _, _, _ => by simp [linesL, cutL_nil]
  | [], _ :: _, h, _, _ => by simp at h
  | _ :: _, [], h, _, _ => by simp at h
  | k :: ks, v :: vs, h, h1, h2 => by
    have e : linesL (k :: ks) (v :: vs) = (k.data.toList ++ 61 :: v.data.toList) ++ 10 :: linesL ks vs := by simp [linesL, lineL]
    rw [e, cutL_app, cut_lines ks vs (by simpa using h) (fun x hx => h1 x (by simp [hx])) (fun x hx => h2 x (by simp [hx]))]
    · simp
    · have a := h1 k (by simp)
      have b := h2 v (by simp)
      simp only [List.mem_append, List.mem_cons, not_or]
      exact ⟨a, by decide, b⟩
theorem trim_app (p v : List UInt8) : Lib.trimPrefix (p ++ v) p = v := by
  rw [Lib.trimPrefix]
  have : Lib.hasPrefix (p ++ v) p = true := by
    rw [Lib.hasPrefix]
    simp
  rw [if_pos this]
  simp
/-- The key with '='. -/
def keyE (k : ByteArray) : ByteArray := k ++ ⟨#[61]⟩
theorem keyE_list (k : ByteArray) : (keyE k).data.toList = k.data.toList ++ [61] := by simp [keyE]
/-- What the program reads as the value of a line. -/
def valP (k l : ByteArray) : ByteArray := bsOf (Lib.trimPrefix l.data.toList (keyE k).data.toList)
theorem valP_line (k v : ByteArray) : valP k (bsOf (k.data.toList ++ 61 :: v.data.toList)) = v := by
  rw [valP, list_bsOf, keyE_list, show k.data.toList ++ 61 :: v.data.toList = (k.data.toList ++ [61]) ++ v.data.toList by simp, trim_app, bsOf_list]
theorem valP_size (k l : ByteArray) : (valP k l).size ≤ l.size := by
  show (Lib.trimPrefix l.data.toList (keyE k).data.toList).toArray.size ≤ _
  rw [Lib.trimPrefix]
  have e : l.data.toList.length = l.size := by simp
  split
  · simp
  · simp
theorem cuts_lines (ks vs : List ByteArray) (s : ByteArray) (hs : s.data.toList = linesL ks vs) (h : ks.length = vs.length) (h1 : ∀ k ∈ ks, (10 : UInt8) ∉ k.data.toList) (h2 : ∀ v ∈ vs, (10 : UInt8) ∉ v.data.toList) :
    (cutsS s 10).length = ks.length + 1 ∧ ∀ i, (hi : i < ks.length) → (hj : i < vs.length) → (hc : i < (cutsS s 10).length) → valP ks[i] (cutsS s 10)[i] = vs[i] := by
  have e : cutsS s 10 = (List.zipWith (fun (k v : ByteArray) => k.data.toList ++ 61 :: v.data.toList) ks vs ++ [[]]).map bsOf := by
    rw [cutsS, cutsL, hs, cut_lines ks vs h h1 h2]
  refine ⟨by rw [e]; simp; omega, fun i hi hj hc => ?_⟩
  have : (cutsS s 10)[i] = bsOf (ks[i].data.toList ++ 61 :: vs[i].data.toList) := by
    rw [List.getElem_of_eq e hc, List.getElem_map, List.getElem_append_left (by simp; omega), List.getElem_zipWith]
  rw [this, valP_line]
/-- How the reference reads lines. -/
def splR : List ByteArray → List UInt8 → Option (List ByteArray)
  | [], t => if t = [] then some [] else none
  | k :: ks, t =>
    if (10 : UInt8) ∈ t ∧ (k.data.toList ++ [61]).isPrefixOf (t.takeWhile (· ≠ 10)) = true then
      (splR ks (t.dropWhile (· ≠ 10)).tail).map (bsOf ((t.takeWhile (· ≠ 10)).drop (k.size + 1)) :: ·)
    else none
theorem take_nl {p l : List UInt8} (h : (10 : UInt8) ∉ p) : (p ++ 10 :: l).takeWhile (· ≠ 10) = p ∧ ((p ++ 10 :: l).dropWhile (· ≠ 10)).tail = l := by
  induction p with
  | nil => simp
  | cons c r ih =>
    have hc : c ≠ 10 := fun e => h (by simp [e])
    obtain ⟨a, b⟩ := ih (fun hm => h (by simp [hm]))
    rw [List.cons_append, List.takeWhile_cons_of_pos (by simpa using hc), List.dropWhile_cons_of_pos (by simpa using hc)]
    exact ⟨by rw [a], b⟩
theorem spl_lines : ∀ (ks vs : List ByteArray), ks.length = vs.length → (∀ k ∈ ks, (10 : UInt8) ∉ k.data.toList) → (∀ v ∈ vs, (10 : UInt8) ∉ v.data.toList) → splR ks (linesL ks vs) = some vs
  | [], [], _, _, _ => by simp [linesL, splR]
  | [], _ :: _, h, _, _ => by simp at h
  | _ :: _, [], h, _, _ => by simp at h
  | k :: ks, v :: vs, h, h1, h2 => by
    have ih := spl_lines ks vs (by simpa using h) (fun x hx => h1 x (by simp [hx])) (fun x hx => h2 x (by simp [hx]))
    have e : linesL (k :: ks) (v :: vs) = (k.data.toList ++ 61 :: v.data.toList) ++ 10 :: linesL ks vs := by simp [linesL, lineL]
    have hn : (10 : UInt8) ∉ k.data.toList ++ 61 :: v.data.toList := by
      have a := h1 k (by simp)
      have b := h2 v (by simp)
      simp only [List.mem_append, List.mem_cons, not_or]
      exact ⟨a, by decide, b⟩
    obtain ⟨t1, t2⟩ := take_nl (l := linesL ks vs) hn
    rw [e, splR, t1, t2, ih, if_pos]
    · rw [Option.map_some]
      congr 2
      rw [show k.data.toList ++ 61 :: v.data.toList = (k.data.toList ++ [61]) ++ v.data.toList by simp]
      rw [List.drop_left' (by simp), bsOf_list]
    · refine ⟨by simp, ?_⟩
      rw [List.isPrefixOf_iff_prefix]
      exact ⟨v.data.toList, by simp⟩
theorem spl_len : ∀ (ks : List ByteArray) (t : List UInt8) (vs : List ByteArray), splR ks t = some vs → vs.length = ks.length ∧ ∀ v ∈ vs, v.size ≤ t.length
  | [], t, vs, h => by
    rw [splR] at h
    split at h
    · cases h; exact ⟨rfl, by simp⟩
    · cases h
  | k :: ks, t, vs, h => by
    rw [splR] at h
    split at h
    · cases hs : splR ks (t.dropWhile (· ≠ 10)).tail with
      | none => rw [hs] at h; cases h
      | some us =>
        rw [hs, Option.map_some] at h
        cases h
        obtain ⟨a, b⟩ := spl_len ks _ us hs
        refine ⟨by simp [a], fun v hv => ?_⟩
        rcases List.mem_cons.1 hv with rfl | hv
        · show (List.drop _ _).toArray.size ≤ _
          have := (List.takeWhile_prefix (l := t) (fun x : UInt8 => decide (x ≠ 10))).length_le
          simp only [List.size_toArray, List.length_drop]
          omega
        · have c := b v hv
          have d := (List.dropWhile_suffix (l := t) (fun x : UInt8 => decide (x ≠ 10))).length_le
          rw [List.length_tail] at c
          omega
    · cases h
end Go.Proofs.YtiiioefjdebggaaGreatDoor

/- The place of a byte in a string. Plain. -/
namespace Go.Proofs.YtiiioefjdebggaaGreatDoor
open Go.RowKit

/-- The place of the first byte c. -/
def cutI (s : ByteArray) (c : UInt8) : Int := Lib.indexByte s.data.toList c
theorem indexByte_lt (l : List UInt8) (c : UInt8) : Lib.indexByte l c < l.length := by
  induction l with
  | nil => simp [Lib.indexByte]
  | cons b r ih =>
    unfold Lib.indexByte
    split
    · simp
    · split
      · simp; omega
      · simp; omega
theorem cutI_lt (s : ByteArray) (c : UInt8) : cutI s c < s.size := by
  have := indexByte_lt s.data.toList c
  simpa [cutI] using this
theorem indexByte_eq (l : List UInt8) (c : UInt8) : ∀ i : Nat, Lib.indexByte l c = i ↔ (c ∉ l.take i ∧ l[i]? = some c) := by
  induction l with
  | nil => intro i; simp [Lib.indexByte]
  | cons b r ih =>
    intro i
    have hg := Lib.indexByte_ge r c
    unfold Lib.indexByte
    by_cases hb : b = c
    · subst hb
      cases i with
      | zero => simp
      | succ i => simp; omega
    · have hb' : (b == c) = false := by simpa using hb
      rw [hb']
      cases i with
      | zero =>
        simp only [Bool.false_eq_true, if_false, List.take_zero, List.not_mem_nil, not_false_eq_true, true_and, List.getElem?_cons_zero, Option.some.injEq, hb, iff_false]
        by_cases hr : Lib.indexByte r c = -1
        · simp [hr]
        · simp [hr]; omega
      | succ i =>
        have := ih i
        simp only [Bool.false_eq_true, if_false, List.take_succ_cons, List.mem_cons, not_or, List.getElem?_cons_succ, Ne.symm hb, not_false_eq_true, true_and]
        have hbc : ¬ c = b := fun e => hb e.symm
        rw [← this]
        by_cases hr : Lib.indexByte r c = -1
        · simp [hr]; omega
        · simp [hr]
theorem cutI_eq (s : ByteArray) (c : UInt8) (i : Nat) : cutI s c = i ↔ (c ∉ s.data.toList.take i ∧ s.data.toList[i]? = some c) := indexByte_eq _ c i
theorem ext_front (s : ByteArray) (i : Nat) : (s.extract 0 i).data.toList = s.data.toList.take i := by
  simp [ByteArray.data_extract]
theorem ext_back (s : ByteArray) (i : Nat) : (s.extract i s.size).data.toList = s.data.toList.drop i := Lib.extract_to_end s i
/-- What stands round a byte. -/
theorem split_at (s : ByteArray) (c : UInt8) (i : Nat) (h : s.data.toList[i]? = some c) : s.extract 0 i ++ ⟨#[c]⟩ ++ s.extract (i + 1) s.size = s := by
  apply ByteArray.ext
  apply Array.toList_inj.1
  rw [ByteArray.data_append, ByteArray.data_append, Array.toList_append, Array.toList_append, ext_front, ext_back]
  obtain ⟨hi, he⟩ := List.getElem?_eq_some_iff.1 h
  have : s.data.toList = s.data.toList.take i ++ s.data.toList.drop i := (List.take_append_drop i _).symm
  conv => rhs; rw [this, List.drop_eq_getElem_cons hi, he]
  simp
end Go.Proofs.YtiiioefjdebggaaGreatDoor

/- Plain: the pieces of a string, by the first place of the separator. -/
namespace Go.Proofs.YtiiioefjdebggaaGreatDoor
open Go.RowKit

theorem cutL_len (c : UInt8) (l : List UInt8) : (cutL c l).length = l.count c + 1 := by
  induction l with
  | nil => rfl
  | cons a l ih =>
    rw [cutL]
    by_cases h : a = c
    · subst h; simp [ih]
    · simp only [if_neg h]
      cases hc : cutL c l with
      | nil => exact absurd hc (cutL_ne c l)
      | cons p ps => rw [hc] at ih; simp [h]; simpa using ih
theorem cutsL_len (c : UInt8) (l : List UInt8) : (cutsL c l).length = l.count c + 1 := by rw [cutsL, List.length_map, cutL_len]
theorem cutsS_len (s : ByteArray) (c : UInt8) : (cutsS s c).length = s.data.toList.count c + 1 := cutsL_len c _
theorem cutsS_le (s : ByteArray) (c : UInt8) : (cutsS s c).length ≤ s.size + 1 := by
  rw [cutsS_len]
  have := @List.count_le_length _ _ c s.data.toList
  have : s.data.toList.length = s.size := by simp
  omega
theorem mem_idx {s : ByteArray} {c : UInt8} (h : 2 ≤ (cutsS s c).length) : ∃ i : Nat, cutI s c = i := by
  rw [cutsS_len] at h
  have hm : c ∈ s.data.toList := List.count_pos_iff.1 (by omega)
  have hg := Lib.indexByte_ge s.data.toList c
  refine Int.eq_ofNat_of_zero_le ?_
  by_cases h0 : 0 ≤ cutI s c
  · exact h0
  · exfalso
    have e : Lib.indexByte s.data.toList c = -1 := by have : cutI s c = Lib.indexByte s.data.toList c := rfl; omega
    obtain ⟨k, hk⟩ := List.mem_iff_getElem?.1 hm
    exact Lib.indexByte_none e k hk
theorem cutsS_hit {s : ByteArray} {c : UInt8} {i : Nat} (h : cutI s c = i) : cutsS s c = s.extract 0 i :: cutsS (s.extract (i + 1) s.size) c := by
  obtain ⟨h1, h2⟩ := (cutI_eq s c i).1 h
  have hl : i < s.data.toList.length := (List.getElem?_eq_some_iff.1 h2).1
  have e : s.data.toList = s.data.toList.take i ++ c :: s.data.toList.drop (i + 1) := by
    have h3 : s.data.toList.drop i = c :: s.data.toList.drop (i + 1) := by
      rw [List.drop_eq_getElem_cons hl]
      rw [List.getElem?_eq_getElem hl] at h2
      rw [Option.some.inj h2]
    conv => lhs; rw [← List.take_append_drop i s.data.toList, h3]
  rw [cutsS, e, cutsL, cutL_app h1, List.map_cons, cutsS, cutsL, ext_back, ← ext_front, bsOf_list]
theorem cutsS_miss {s : ByteArray} {c : UInt8} (h : (cutsS s c).length = 1) : cutsS s c = [s] := by
  rw [cutsS_len] at h
  have hm : c ∉ s.data.toList := List.count_eq_zero.1 (by omega)
  rw [cutsS, cutsL, cutL_nil hm, List.map_cons, List.map_nil, bsOf_list]
end Go.Proofs.YtiiioefjdebggaaGreatDoor

/- strings.Split at a separator of one byte. -/
namespace Go.Proofs.YtiiioefjdebggaaGreatDoor
open Go.RowKit

theorem count_any (s : ByteArray) (c : UInt8) (w : World) :
    Calls Tryz.prog 162 #[.string s, .string ⟨#[c]⟩] w fun e w' => e = .returned (.int .i64 ((cutsS s c).length - 1 : Int)) ∧ w = w' := by
  refine (Tryz.strings_Count_one s c w).mono ?_
  rintro e w' ⟨rfl, rfl⟩
  refine ⟨ret_int ?_, rfl⟩
  rw [cutsS_len]; unfold Lib.countByte; omega
theorem index_one (s : ByteArray) (c : UInt8) (z : Int) (w : World) (h : cutI s c = z) :
    Calls Tryz.prog 163 #[.string s, .string ⟨#[c]⟩] w fun e w' => e = .returned (.int .i64 z) ∧ w = w' := by
  refine (Tryz.strings_Index_one s c w).mono ?_
  rintro e w' ⟨rfl, rfl⟩
  exact ⟨ret_int h, rfl⟩

theorem mid_at {L P R : List ByteArray} {q : ByteArray} {k : Nat} (h : L = P ++ q :: R) (hk : P.length = k) (hl : k < L.length) : L[k] = q := by
  subst h; subst hk; simp

set_option maxHeartbeats 2000000 in
set_option maxRecDepth 100000 in
theorem genSplit_any (s : ByteArray) (c : UInt8) (w : World) (hs : s.size ≤ 1000000000) :
    Calls Tryz.prog 145 #[.string s, .string ⟨#[c]⟩, .int .i64 0, .int .i64 (-1)] w fun e w' => ∃ xs cap, e = .returned (.slice (some ⟨w.heap.size, 0, none⟩) (cutsS s c).length cap) ∧ (cutsS s c).length ≤ cap ∧ w'.ownsRow w.heap.size 9 1 (.slice (some ⟨w.heap.size, 0, none⟩) (cutsS s c).length cap) (cutsS s c).length xs ∧ Done xs (cutsS s c) (cutsS s c).length ∧ Below w.heap.size w w' := by
  obtain ⟨i0, hi, hz0, hz1, hz2⟩ := info_parts Tryz.info_s
  have hle := cutsS_le s c
  have hpos : 1 ≤ (cutsS s c).length := by rw [cutsS_len]; omega
  obtain ⟨N, hN⟩ : ∃ N, (cutsS s c).length = N := ⟨_, rfl⟩
  have HC := count_any s c w
  rw [hN] at HC hle hpos
  have HN := Lib.hid hN
  have hmin : min (N : Int) ((s.size : Int) + 1) = N := by omega
  rw [hN]
  clear hN
  go_enter Tryz.func145, Tryz.ntmps145
  go_wp2_with fail
  refine HC.mono ?_
  rintro e w1 ⟨rfl, rfl⟩
  clear HC
  go_wp2_with (at_make; refine wpList_make_full _ rfl _ _ 23 rfl w.heap.size 9 i0 (.string ByteArray.empty) 1 Tryz.underlying23 hi hz0 hz1 .i64 .i64 _ _ N rfl rfl rfl rfl (by rw [hz2]; omega) (by unfold maxLen; omega) (Nat.le_refl _) ?_; intro w1 hown1 hg1)
  have HB1 := Lib.hid ((Below.refl w.heap.size w).grown hg1 (Nat.le_refl _) (by intro k hk; cases hk))
  clear hg1
  go_wp2_with fail
  go_loopw [0, 10, 11] (fun sv i _ wr => ∃ (t : ByteArray) (k : Nat) (xs : List Value) (P : List ByteArray), k + 1 ≤ N ∧ sv = .string t ∧ i = .int .i64 k ∧ t.size ≤ s.size ∧ Hid (P.length = k ∧ cutsS s c = P ++ cutsS t c) ∧ wr.ownsRow w.heap.size 9 1 (.slice (some ⟨w.heap.size, 0, none⟩) N N) N xs ∧ Below w.heap.size w wr ∧ Hid (Done xs (cutsS s c) k)) (fun _ i _ _ => N - (intOf i).toNat)
  case atStart => exact ⟨s, 0, _, [], hpos, rfl, rfl, Nat.le_refl _, Lib.hid ⟨rfl, rfl⟩, hown1, HB1.out, Lib.hid (Done.zero _ _)⟩
  case round =>
    clear hown1
    obtain ⟨t, k, xs, P, hk, rfl, rfl, hts, HP, hown, hbr, HD⟩ := hrel
    have HX : Hid (xs.length = N) := by show _ = _; have := hown.1; omega
    obtain ⟨u, hu⟩ : ∃ u, xs[k]? = some u := ⟨_, List.getElem?_eq_getElem (by rw [HX.out]; exact hk)⟩
    have hcell := (hown.cellAt k (by omega)).trans hu
    have hfr := hown.frozenAt k
    clear hu
    have HLt : Hid ((cutsS t c).length + k = N) := by
      show _ = _
      have h1 := congrArg List.length HP.out.2
      rw [List.length_append, HP.out.1, HN.out] at h1; omega
    by_cases hlt : k + 1 < N
    · obtain ⟨i, hci⟩ := mem_idx (s := t) (c := c) (by have := HLt.out; omega)
      have HI := Lib.hid hci
      have hil : i < t.size := by have := cutI_lt t c; omega
      have HE := Lib.hid (cutsS_hit hci)
      have HM : Hid (∀ hl : k < (cutsS s c).length, (cutsS s c)[k] = t.extract 0 i) := Lib.hid (fun hl => mid_at (P := P) (R := cutsS (t.extract (i + 1) t.size) c) (by rw [← HE.out]; exact HP.out.2) HP.out.1 hl)
      have hP2 : Hid ((P ++ [t.extract 0 i]).length = k + 1 ∧ cutsS s c = (P ++ [t.extract 0 i]) ++ cutsS (t.extract (i + 1) t.size) c) := Lib.hid ⟨by rw [List.length_append, HP.out.1]; rfl, by rw [HP.out.2, HE.out]; simp⟩
      have hlt' : (k : Int) < (N : Int) - 1 := by omega
      have hw1 : IntKind.i64.wrap ((i : Int) + 1) = (i : Int) + 1 := IntWalk.i64_in _ (by omega)
      clear hci
      go_wp2_with fail
      refine (index_one t c i _ HI.out).mono ?_
      rintro e w2 ⟨rfl, rfl⟩
      go_wp2_with fail
      have HS := hown.stored k (.string (t.extract 0 i))
      have HDn : Hid (Done (xs.set k (.string (t.extract 0 i))) (cutsS s c) (k + 1)) := Lib.hid (HD.out.set (by rw [HX.out]; exact hk) (fun hl => by rw [HM.out hl]))
      have hsz : (t.extract (i + 1) t.size).size ≤ s.size := by simp [ByteArray.size_extract]; omega
      go_roundw
      case rel => exact ⟨_, k + 1, _, _, hlt, rfl, by go_num, hsz, hP2, HS.1, hbr.setCell (p := ⟨w.heap.size, k, none⟩) (Nat.le_refl _) _, HDn⟩
      case measure => simp [intOf]; omega
    · have hlt' : ¬ (k : Int) < (N : Int) - 1 := by omega
      have hkN : k + 1 = N := by omega
      have HM1 := Lib.hid (cutsS_miss (s := t) (c := c) (by have := HLt.out; omega))
      have HM : Hid (∀ hl : k < (cutsS s c).length, (cutsS s c)[k] = t) := Lib.hid (fun hl => mid_at (P := P) (R := []) (by rw [← HM1.out]; exact HP.out.2) HP.out.1 hl)
      go_wp2_with fail
      have HS := hown.stored k (.string t)
      have HDn : Done (xs.set k (.string t)) (cutsS s c) N := by
        rw [← hkN]
        exact HD.out.set (by rw [HX.out]; exact hk) (fun hl => by rw [HM.out hl])
      go_ret
      exact ⟨_, N, rfl, Nat.le_refl _, HS.1, HDn, hbr.setCell (p := ⟨w.heap.size, k, none⟩) (Nat.le_refl _) _⟩
/-- strings.Split. -/
theorem ssplit_any (s : ByteArray) (c : UInt8) (w : World) (hs : s.size ≤ 1000000000) :
    Calls Tryz.prog 117 #[.string s, .string ⟨#[c]⟩] w fun e w' => ∃ xs cap, e = .returned (.slice (some ⟨w.heap.size, 0, none⟩) (cutsS s c).length cap) ∧ (cutsS s c).length ≤ cap ∧ w'.ownsRow w.heap.size 9 1 (.slice (some ⟨w.heap.size, 0, none⟩) (cutsS s c).length cap) (cutsS s c).length xs ∧ Done xs (cutsS s c) (cutsS s c).length ∧ Below w.heap.size w w' := by
  go_enter Tryz.func117, Tryz.ntmps117
  go_wp2_with fail
  refine (genSplit_any s c w hs).mono ?_
  rintro e w1 ⟨xs, cap, rfl, h1, h2, h3, h4⟩
  go_wp2_with fail
  go_ret
  exact ⟨xs, cap, rfl, h1, h2, h3, h4⟩
end Go.Proofs.YtiiioefjdebggaaGreatDoor

/- strings.Builder: copyCheck, WriteByte, WriteString at a builder that the call itself has made (the shelf's contracts do not lie over this translation, whose copyCheck ends in a refused statement). -/
namespace Go.Proofs.YtiiioefjdebggaaGreatDoor
open Go.RowKit

theorem info_bld : (Tryz.prog.info? 118).map (fun i => i.size) = some 2 := by kernel_rfl
theorem info_byte : (Tryz.prog.info? 5).map (fun i => (i.zero, i.size, i.bytes)) = some (some (.int .u8 0), 1, 1) := by kernel_rfl
theorem lies_bld : liesAt Tryz.prog Tryz.prog.depth 118 (2 / Tryz.prog.cellsOf 118) 0 118 1 = true := by kernel_rfl

/-- A builder of the call's own. -/
def Bld (B b : Nat) (l : List UInt8) (w : World) : Prop := Lib.IsBuilder 118 5 B b (Lib.byteCells l) w
theorem Bld.fresh (w : World) : Bld w.heap.size w.heap.size [] (w.alloc (.cells #[.pointer none, .slice none 0 0] 118)) := Lib.fresh_isBuilder 118 5 w

set_option maxHeartbeats 1000000 in
set_option maxRecDepth 100000 in
theorem copyCheck_used (b : Nat) (w : World) (h0 : w.cell? ⟨b, 0, none⟩ = some (.pointer (some ⟨b, 0, none⟩))) :
    Calls Tryz.prog 142 #[.pointer (some ⟨b, 0, none⟩)] w fun e w' => e = .returned (.tuple #[]) ∧ w' = w := by
  obtain ⟨j, hj, _⟩ := Option.map_eq_some_iff.1 info_bld
  go_enter Tryz.func142, Tryz.ntmps142
  go_wp2
  rw [Lib.run_neq_ptr_same w _ Tryz.underlying116 hj]
  go_wp2
  go_end0
  exact ⟨rfl, rfl⟩

set_option maxHeartbeats 1000000 in
set_option maxRecDepth 100000 in
theorem copyCheck_fresh (b : Nat) (w : World) (h0 : w.cell? ⟨b, 0, none⟩ = some (.pointer none)) (hsh : w.shape? b = some (118, 2)) (hfz : w.frozen? ⟨b, 0, none⟩ = false) :
    Calls Tryz.prog 142 #[.pointer (some ⟨b, 0, none⟩)] w fun e w' => e = .returned (.tuple #[]) ∧ w' = w.setCell ⟨b, 0, none⟩ (.pointer (some ⟨b, 0, none⟩)) := by
  obtain ⟨j, hj, hjs⟩ := Option.map_eq_some_iff.1 info_bld
  go_enter Tryz.func142, Tryz.ntmps142
  go_wp2
  rw [Lib.run_to_unsafe w ⟨b, 0, none⟩ Tryz.underlying116 Tryz.underlying146 hj (by rw [hjs]; decide) hsh (Nat.zero_lt_succ 1)]
  simp only [Result.andThen]
  rw [Oper.upon_value]
  go_wp2
  rw [run_callFunc_extern Tryz.func156 (by kernel_rfl) (by kernel_rfl) (by kernel_rfl) (e := Extern.AbiNoEscape.same) (by kernel_rfl)]
  rw [Lib.run_noEscape]
  simp only [Result.andThen]
  rw [Oper.upon_value]
  go_wp2
  rw [Lib.run_from_unsafe w ⟨b, 0, none⟩ Tryz.underlying146 Tryz.underlying116 hj hsh lies_bld]
  simp only [Result.andThen]
  rw [Oper.upon_value]
  go_wp2
  go_end0
  exact ⟨rfl, rfl⟩

theorem copyCheck_any (B b : Nat) (bs : List Value) (w : World) (h : Lib.IsBuilder 118 5 B b bs w) :
    Calls Tryz.prog 142 #[.pointer (some ⟨b, 0, none⟩)] w fun e w' => e = .returned (.tuple #[]) ∧ (Lib.BuilderAt 118 5 B b (.pointer (some ⟨b, 0, none⟩)) bs w' ∧ Below B w w') := by
  rcases h with h | h
  · refine (copyCheck_fresh b w h.cell0 h.shape h.frozen0).mono ?_
    rintro e w' ⟨rfl, rfl⟩
    exact ⟨rfl, h.used _, (Below.refl B w).setCell (p := ⟨b, 0, none⟩) h.1 _⟩
  · refine (copyCheck_used b w h.cell0).mono ?_
    rintro e w' ⟨rfl, rfl⟩
    exact ⟨rfl, h, Below.refl B _⟩

set_option maxHeartbeats 2000000 in
set_option maxRecDepth 100000 in
theorem writeByte_val (B b : Nat) (bs : List Value) (c : Int) (w : World) (h : Lib.IsBuilder 118 5 B b bs w) (hlen : bs.length + 1 ≤ 140737488355328) (hBw : B ≤ w.heap.size) :
    Calls Tryz.prog 103 #[.pointer (some ⟨b, 0, none⟩), .int .u8 c] w fun e w' => e = .returned .nilIface ∧ (Lib.BuilderAt 118 5 B b (.pointer (some ⟨b, 0, none⟩)) (bs ++ [.int .u8 c]) w' ∧ Below B w w') := by
  obtain ⟨i0, hi, hz0, hz1, hz2⟩ := info_parts info_byte
  go_enter Tryz.func103, Tryz.ntmps103
  go_wp2_with (go_at_call 142; refine (copyCheck_any B b bs _ h).mono ?_)
  rintro e w1 ⟨rfl, h1, hb1⟩
  obtain ⟨hB, v, hbk, hown, hne⟩ := h1
  have c0 : w1.cell? ⟨b, 0, none⟩ = some (.pointer (some ⟨b, 0, none⟩)) := by rw [Lib.cell_of_heap hbk]; rfl
  have c1 : w1.cell? ⟨b, 1, none⟩ = some v := by rw [Lib.cell_of_heap hbk]; rfl
  go_wp2_with (at_builtin; refine wpList_append_own _ rfl _ _ 107 rfl B 5 i0 (.int .u8 0) 1 1 Tryz.underlying107 hi hz0 hz1 hz2 rfl (by decide) _ _ _ rfl (hown.alloc _) ⟨w1.heap.size, 0, none⟩ 1 1 [.int .u8 c] rfl rfl ?c1 ?c2 ?c3 ?c4 ?c5 ?_)
  case c1 =>
    intro j u hj
    match j, hj with
    | 0, hj => simp at hj; subst hj; simp [Addr.add]
  case c2 => intro u hu; simp at hu; subst hu; rfl
  case c3 => unfold maxLen; omega
  case c4 => omega
  case c5 => have := hb1.size; simp; omega
  intro v' w2 hown' hgrow _
  have hlt : b < w1.heap.size := by
    rcases Nat.lt_or_ge b w1.heap.size with h' | h'
    · exact h'
    · simp [Array.getElem?_eq_none h'] at hbk
  have hb2 : w2.heap[b]? = some (.cells #[.pointer (some ⟨b, 0, none⟩), v] 118 (0, 0)) := by
    rw [hgrow.block b (by simp; omega) (fun e => hne e.symm), Lib.alloc_old w1 _ b hlt]
    exact hbk
  have d0 : w2.cell? ⟨b, 0, none⟩ = some (.pointer (some ⟨b, 0, none⟩)) := by rw [Lib.cell_of_heap hb2]; rfl
  have d1 : w2.cell? ⟨b, 1, none⟩ = some v := by rw [Lib.cell_of_heap hb2]; rfl
  have f1 : w2.frozen? ⟨b, 1, none⟩ = false := Lib.frozen_of_heap hb2 1
  obtain ⟨g, cap, rfl⟩ : ∃ g cap, v' = .slice (some ⟨g, 0, none⟩) (bs.length + 1) cap := by
    rcases hown'.2 with ⟨_, h0⟩ | ⟨g, cap, cur, hv, _⟩
    · omega
    · exact ⟨g, cap, hv⟩
  go_wp2
  go_ret
  refine ⟨rfl, ?_, ?_⟩
  · exact Lib.BuilderAt.put (T := 118) (e := 5) hB hb2 (bs' := bs ++ [.int .u8 c]) (by simpa using hown') (by decide)
  · exact ((hb1.alloc (by have := hb1.size; omega) _).grown hgrow (by have := hb1.size; simp; omega) (fun k hk => (hown.lt k hk).1)).setCell (p := ⟨b, 1, none⟩) hB _

theorem byteCells_snoc (l : List UInt8) (c : UInt8) : Lib.byteCells l ++ [Value.int .u8 (c.toNat : Int)] = Lib.byteCells (l ++ [c]) := by simp [Lib.byteCells]
/-- WriteByte, in bytes. -/
theorem writeByte_any (B b : Nat) (l : List UInt8) (c : UInt8) (w : World) (h : Bld B b l w) (hlen : l.length + 1 ≤ 140737488355328) (hBw : B ≤ w.heap.size) :
    Calls Tryz.prog 103 #[.pointer (some ⟨b, 0, none⟩), .int .u8 (c.toNat : Int)] w fun e w' => e = .returned .nilIface ∧ (Bld B b (l ++ [c]) w' ∧ Below B w w') := by
  refine (writeByte_val B b (Lib.byteCells l) (c.toNat : Int) w h (by simpa [Lib.byteCells_length] using hlen) hBw).mono ?_
  rintro e w' ⟨he, h1, h2⟩
  exact ⟨he, .inr (by rw [byteCells_snoc] at h1; exact h1), h2⟩

set_option maxHeartbeats 2000000 in
set_option maxRecDepth 100000 in
theorem writeString_val (B b : Nat) (bs : List Value) (s : ByteArray) (w : World) (h : Lib.IsBuilder 118 5 B b bs w) (hlen : bs.length + s.size ≤ 140737488355328) (hBw : B ≤ w.heap.size) :
    Calls Tryz.prog 126 #[.pointer (some ⟨b, 0, none⟩), .string s] w fun e w' => e = .returned (.tuple #[.int .i64 s.size, .nilIface]) ∧ (Lib.BuilderAt 118 5 B b (.pointer (some ⟨b, 0, none⟩)) (bs ++ Lib.strCells s) w' ∧ Below B w w') := by
  obtain ⟨i0, hi, hz0, hz1, hz2⟩ := info_parts info_byte
  go_enter Tryz.func126, Tryz.ntmps126
  go_wp2_with (go_at_call 142; refine (copyCheck_any B b bs _ h).mono ?_)
  rintro e w1 ⟨rfl, h1, hb1⟩
  obtain ⟨hB, v, hbk, hown, hne⟩ := h1
  have c0 : w1.cell? ⟨b, 0, none⟩ = some (.pointer (some ⟨b, 0, none⟩)) := by rw [Lib.cell_of_heap hbk]; rfl
  have c1 : w1.cell? ⟨b, 1, none⟩ = some v := by rw [Lib.cell_of_heap hbk]; rfl
  go_wp2_with (at_builtin; refine Lib.wpList_append_own_string _ rfl _ _ 107 9 rfl B 5 i0 Tryz.underlying107 Tryz.underlying9 hi hz0 hz1 hz2 _ _ _ rfl hown s rfl ?c3 ?c4 ?c5 ?_)
  case c3 => unfold maxLen; omega
  case c4 => omega
  case c5 => have := hb1.size; omega
  intro v' w2 hown' hgrow _
  have hlt : b < w1.heap.size := by
    rcases Nat.lt_or_ge b w1.heap.size with h' | h'
    · exact h'
    · simp [Array.getElem?_eq_none h'] at hbk
  have hb2 : w2.heap[b]? = some (.cells #[.pointer (some ⟨b, 0, none⟩), v] 118 (0, 0)) := by
    rw [hgrow.block b hlt (fun e => hne e.symm)]
    exact hbk
  have d0 : w2.cell? ⟨b, 0, none⟩ = some (.pointer (some ⟨b, 0, none⟩)) := by rw [Lib.cell_of_heap hb2]; rfl
  have d1 : w2.cell? ⟨b, 1, none⟩ = some v := by rw [Lib.cell_of_heap hb2]; rfl
  have f1 : w2.frozen? ⟨b, 1, none⟩ = false := Lib.frozen_of_heap hb2 1
  obtain ⟨ao, n', cap, rfl⟩ : ∃ ao n' cap, v' = .slice ao n' cap := by
    rcases hown'.2 with ⟨hv, _⟩ | ⟨g, cap, cur, hv, _⟩
    · exact ⟨_, _, _, hv⟩
    · exact ⟨_, _, _, hv⟩
  go_wp2
  go_ret2
  refine ⟨rfl, ?_, ?_⟩
  · exact Lib.BuilderAt.put (T := 118) (e := 5) hB hb2 (bs' := bs ++ Lib.strCells s) (by simpa [Lib.strCells_length] using hown') (by decide)
  · exact (hb1.grown hgrow (by have := hb1.size; omega) (fun k hk => (hown.lt k hk).1)).setCell (p := ⟨b, 1, none⟩) hB _
/-- WriteString, in bytes. -/
theorem writeString_any (B b : Nat) (l : List UInt8) (s : ByteArray) (w : World) (h : Bld B b l w) (hlen : l.length + s.size ≤ 140737488355328) (hBw : B ≤ w.heap.size) :
    Calls Tryz.prog 126 #[.pointer (some ⟨b, 0, none⟩), .string s] w fun e w' => e = .returned (.tuple #[.int .i64 s.size, .nilIface]) ∧ (Bld B b (l ++ s.data.toList) w' ∧ Below B w w') := by
  refine (writeString_val B b (Lib.byteCells l) s w h (by simpa [Lib.byteCells_length] using hlen) hBw).mono ?_
  rintro e w' ⟨he, h1, h2⟩
  exact ⟨he, .inr (by have e : Lib.byteCells l ++ Lib.strCells s = Lib.byteCells (l ++ s.data.toList) := by simp [Lib.byteCells, Lib.strCells]
                      rw [e] at h1; exact h1), h2⟩
/-- String. -/
theorem bldString_any (B b : Nat) (l : List UInt8) (w : World) (h : Bld B b l w) (hBw : B ≤ w.heap.size) :
    Calls Tryz.prog 104 #[.pointer (some ⟨b, 0, none⟩)] w fun e w' => e = .returned (.string ⟨l.toArray⟩) ∧ Below B w w' :=
  Tryz.Builder_String_any B b l w h hBw
end Go.Proofs.YtiiioefjdebggaaGreatDoor

/- Plain functions for the layer codec: base64 forms, on lists of bytes. No program in sight. -/
namespace Go.Proofs.YtiiioefjdebggaaGreatDoor
open Go.RowKit

/-- The letter with a value below 64. -/
def b64Dig (d : Nat) : UInt8 := if d < 26 then UInt8.ofNat (65 + d) else if d < 52 then UInt8.ofNat (71 + d) else if d < 62 then UInt8.ofNat (d - 4) else if d = 62 then 45 else 95
/-- The value of a letter. -/
def b64Val (c : UInt8) : Option Nat := if 65 ≤ c.toNat ∧ c.toNat ≤ 90 then some (c.toNat - 65) else if 97 ≤ c.toNat ∧ c.toNat ≤ 122 then some (c.toNat - 71) else if 48 ≤ c.toNat ∧ c.toNat ≤ 57 then some (c.toNat + 4) else if c.toNat = 45 then some 62 else if c.toNat = 95 then some 63 else none
theorem b64Val_dig (d : Nat) (h : d < 64) : b64Val (b64Dig d) = some d := by
  have : ∀ d : Fin 64, b64Val (b64Dig d.1) = some d.1 := by decide +kernel
  exact this ⟨d, h⟩
theorem b64Dig_val {c : UInt8} {d : Nat} (h : b64Val c = some d) : b64Dig d = c ∧ d < 64 := by
  have : ∀ n : Fin 256, ∀ d, b64Val (UInt8.ofNat n.1) = some d → b64Dig d = UInt8.ofNat n.1 ∧ d < 64 := by
    intro n d hd
    have : ∀ n : Fin 256, (match b64Val (UInt8.ofNat n.1) with | none => true | some d => decide (b64Dig d = UInt8.ofNat n.1 ∧ d < 64)) = true := by decide +kernel
    have := this n
    rw [hd] at this
    simpa using this
  have h2 := this ⟨c.toNat, c.toNat_lt⟩ d
  simp at h2
  exact h2 h

/-- The form of what is left where n bits are held, of value x (n is 0, 2 or 4). -/
def b64E : List UInt8 → Nat → Nat → List UInt8
  | [], 0, _ => []
  | [], 2, x => [b64Dig (x * 16)]
  | [], _, x => [b64Dig (x * 4)]
  | c :: r, 0, _ => b64Dig (c.toNat / 4) :: b64E r 2 (c.toNat % 4)
  | c :: r, 2, x => b64Dig (x * 16 + c.toNat / 16) :: b64E r 4 (c.toNat % 16)
  | c :: r, _, x => b64Dig (x * 4 + c.toNat / 64) :: b64Dig (c.toNat % 64) :: b64E r 0 0
def b64L (l : List UInt8) : List UInt8 := b64E l 0 0
/-- The bytes of what is left of a form where n bits are held, of value x (n is 0, 2, 4 or 6); none where it is none. -/
def b64D : List UInt8 → Nat → Nat → Option (List UInt8)
  | [], n, x => if n < 6 ∧ x = 0 then some [] else none
  | c :: r, 0, x => (b64Val c).bind fun v => b64D r 6 (x * 64 + v)
  | c :: r, 2, x => (b64Val c).bind fun v => (b64D r 0 0).map fun t => UInt8.ofNat (x * 64 + v) :: t
  | c :: r, 4, x => (b64Val c).bind fun v => (b64D r 2 (v % 4)).map fun t => UInt8.ofNat (x * 16 + v / 4) :: t
  | c :: r, _, x => (b64Val c).bind fun v => (b64D r 4 (v % 16)).map fun t => UInt8.ofNat (x * 4 + v / 16) :: t
theorem b64_back3 (l : List UInt8) : b64D (b64E l 0 0) 0 0 = some l ∧ (∀ y x, y < 64 → x < 4 → b64D (b64E l 2 x) 6 y = some (UInt8.ofNat (y * 4 + x) :: l)) ∧ (∀ y x, y < 16 → x < 16 → b64D (b64E l 4 x) 4 y = some (UInt8.ofNat (y * 16 + x) :: l)) := by
  induction l with
  | nil =>
    refine ⟨by simp [b64E, b64D], fun y x hy hx => ?_, fun y x hy hx => ?_⟩
    · rw [b64E, b64D, b64Val_dig _ (by omega)]
      simp only [Option.bind_some]
      rw [show x * 16 % 16 = 0 by omega, show x * 16 / 16 = x by omega]
      simp [b64D]
      all_goals omega
    · rw [b64E, b64D, b64Val_dig _ (by omega)]
      simp only [Option.bind_some]
      rw [show x * 4 % 4 = 0 by omega, show x * 4 / 4 = x by omega]
      simp [b64D]
      all_goals omega
  | cons c r ih =>
    obtain ⟨h0, h2, h4⟩ := ih
    have hc := c.toNat_lt
    have e : UInt8.ofNat c.toNat = c := by simp
    refine ⟨?_, fun y x hy hx => ?_, fun y x hy hx => ?_⟩
    · rw [b64E, b64D, b64Val_dig _ (by omega)]
      simp only [Option.bind_some]
      rw [h2 _ _ (by omega) (by omega), show (0 * 64 + c.toNat / 4) * 4 + c.toNat % 4 = c.toNat by omega, e]
    · rw [b64E, b64D, b64Val_dig _ (by omega)]
      simp only [Option.bind_some]
      rw [show (x * 16 + c.toNat / 16) % 16 = c.toNat / 16 by omega, show (x * 16 + c.toNat / 16) / 16 = x by omega, h4 _ _ (by omega) (by omega), show c.toNat / 16 * 16 + c.toNat % 16 = c.toNat by omega, e]
      rfl
      all_goals omega
    · rw [b64E, b64D, b64Val_dig _ (by omega)]
      simp only [Option.bind_some]
      rw [show (x * 4 + c.toNat / 64) % 4 = c.toNat / 64 by omega, show (x * 4 + c.toNat / 64) / 4 = x by omega, b64D, b64Val_dig _ (by omega)]
      simp only [Option.bind_some]
      rw [show c.toNat / 64 * 64 + c.toNat % 64 = c.toNat by omega, e, h0]
      rfl
      all_goals omega
theorem b64_back (l : List UInt8) : b64D (b64L l) 0 0 = some l := (b64_back3 l).1
/-- What is read from a form has this form. -/
theorem b64_forth4 (t : List UInt8) : ∀ v, (b64D t 0 0 = some v → b64E v 0 0 = t) ∧ (∀ y, y < 64 → b64D t 6 y = some v → b64E v 0 0 = b64Dig y :: t) ∧ (∀ y x, y < 16 → x < 4 → b64D t 4 y = some v → b64E v 2 x = b64Dig (x * 16 + y) :: t) ∧ (∀ y x, y < 4 → x < 16 → b64D t 2 y = some v → b64E v 4 x = b64Dig (x * 4 + y) :: t) := by
  induction t with
  | nil =>
    intro v
    refine ⟨fun h => ?_, fun y hy h => ?_, fun y x hy hx h => ?_, fun y x hy hx h => ?_⟩
    · simp [b64D] at h; subst h; rfl
    · simp [b64D] at h
    · simp [b64D] at h; obtain ⟨rfl, rfl⟩ := h; simp [b64E]
    · simp [b64D] at h; obtain ⟨rfl, rfl⟩ := h; simp [b64E]
  | cons c r ih =>
    intro v
    refine ⟨fun h => ?_, fun y hy h => ?_, fun y x hy hx h => ?_, fun y x hy hx h => ?_⟩
    · rw [b64D] at h
      cases hc : b64Val c with
      | none => rw [hc] at h; cases h
      | some d =>
        rw [hc] at h
        simp only [Option.bind_some] at h
        obtain ⟨e, hd⟩ := b64Dig_val hc
        rw [show 0 * 64 + d = d by omega] at h
        rw [(ih v).2.1 d hd h, e]
    · rw [b64D] at h
      cases hc : b64Val c with
      | none => rw [hc] at h; cases h
      | some d =>
        rw [hc] at h
        simp only [Option.bind_some, Option.map_eq_some_iff] at h
        obtain ⟨e, hd⟩ := b64Dig_val hc
        obtain ⟨t, h1, rfl⟩ := h
        have eb : (UInt8.ofNat (y * 4 + d / 16)).toNat = y * 4 + d / 16 := by simp; omega
        rw [b64E, eb, (ih t).2.2.1 (d % 16) ((y * 4 + d / 16) % 4) (by omega) (by omega) h1, show (y * 4 + d / 16) / 4 = y by omega, show (y * 4 + d / 16) % 4 * 16 + d % 16 = d by omega, e]
      all_goals omega
    · rw [b64D] at h
      cases hc : b64Val c with
      | none => rw [hc] at h; cases h
      | some d =>
        rw [hc] at h
        simp only [Option.bind_some, Option.map_eq_some_iff] at h
        obtain ⟨e, hd⟩ := b64Dig_val hc
        obtain ⟨t, h1, rfl⟩ := h
        have eb : (UInt8.ofNat (y * 16 + d / 4)).toNat = y * 16 + d / 4 := by simp; omega
        rw [b64E, eb, (ih t).2.2.2 (d % 4) ((y * 16 + d / 4) % 16) (by omega) (by omega) h1, show (y * 16 + d / 4) / 16 = y by omega, show (y * 16 + d / 4) % 16 * 4 + d % 4 = d by omega, e]
    · rw [b64D] at h
      cases hc : b64Val c with
      | none => rw [hc] at h; cases h
      | some d =>
        rw [hc] at h
        simp only [Option.bind_some, Option.map_eq_some_iff] at h
        obtain ⟨e, hd⟩ := b64Dig_val hc
        obtain ⟨t, h1, rfl⟩ := h
        have eb : (UInt8.ofNat (y * 64 + d)).toNat = y * 64 + d := by simp; omega
        rw [b64E, eb, (ih t).1 h1, show (y * 64 + d) / 64 = y by omega, show (y * 64 + d) % 64 = d by omega, e]
        all_goals omega
theorem b64_forth (t v : List UInt8) (h : b64D t 0 0 = some v) : b64L v = t := (b64_forth4 t v).1 h
/-- The length of a form. -/
theorem b64E_length3 (l : List UInt8) : (∀ x, (b64E l 0 x).length = (4 * l.length + 2) / 3) ∧ (∀ x, (b64E l 2 x).length = (4 * l.length + 3) / 3) ∧ (∀ x, (b64E l 4 x).length = (4 * l.length + 4) / 3) := by
  induction l with
  | nil => simp [b64E]
  | cons c r ih =>
    obtain ⟨h0, h2, h4⟩ := ih
    refine ⟨fun x => ?_, fun x => ?_, fun x => ?_⟩
    · rw [b64E, List.length_cons, h2, List.length_cons]; omega
    · rw [b64E, List.length_cons, h4, List.length_cons]; omega
    · rw [b64E, List.length_cons, List.length_cons, h0, List.length_cons]; omega
      all_goals omega
theorem b64L_length (l : List UInt8) : (b64L l).length = (4 * l.length + 2) / 3 := (b64E_length3 l).1 0
/-- The base64 form of a string. -/
def b64S (s : ByteArray) : ByteArray := ⟨(b64L s.data.toList).toArray⟩
/-- The string with a base64 form. -/
def readB64O (s : ByteArray) : Option ByteArray := (b64D s.data.toList 0 0).map fun l => ⟨l.toArray⟩
theorem readB64_b64 (s : ByteArray) : readB64O (b64S s) = some s := by
  simp [readB64O, b64S, b64_back]
theorem b64_readB64 {t s : ByteArray} (h : readB64O t = some s) : b64S s = t := by
  simp only [readB64O, Option.map_eq_some_iff] at h
  obtain ⟨l, h, rfl⟩ := h
  have := b64_forth _ _ h
  apply ByteArray.ext
  simp [b64S, this]
theorem b64S_inj {s t : ByteArray} (h : b64S s = b64S t) : s = t := by
  have := readB64_b64 s
  rw [h, readB64_b64] at this
  exact (Option.some.inj this).symm
theorem b64S_size (s : ByteArray) : (b64S s).size = (4 * s.size + 2) / 3 := by
  show (b64L s.data.toList).toArray.size = _
  simp [b64L_length]
def readB64S (s : ByteArray) : ByteArray := (readB64O s).getD ByteArray.empty
def readB64Err (s : ByteArray) : Int := if (readB64O s).isSome then 0 else 4
end Go.Proofs.YtiiioefjdebggaaGreatDoor

/- codec.Base64 computes b64S; codec.ReadBase64 reads it. -/
namespace Go.Proofs.YtiiioefjdebggaaGreatDoor
open Go.RowKit

theorem wraps_i64 (n : Int) (h0 : 0 ≤ n) (h1 : n < 2 ^ 62) : IntKind.i64.wrap n = n := by rw [IntKind.wrap_i64]; omega
theorem i64_and63 (x : Int) (h0 : 0 ≤ x) (h1 : x < 1000000000000) : bits .and .i64 x 63 = x % 64 := bits_mask .i64 62 (by decide) wraps_i64 6 (by decide) x h0 (by omega)
theorem i64_and3 (x : Int) (h0 : 0 ≤ x) (h1 : x < 1000000000000) : bits .and .i64 x 3 = x % 4 := bits_mask .i64 62 (by decide) wraps_i64 2 (by decide) x h0 (by omega)
theorem i64_and15 (x : Int) (h0 : 0 ≤ x) (h1 : x < 1000000000000) : bits .and .i64 x 15 = x % 16 := bits_mask .i64 62 (by decide) wraps_i64 4 (by decide) x h0 (by omega)
theorem i64_and0 (x : Int) (h0 : 0 ≤ x) (h1 : x < 1000000000000) : bits .and .i64 x 0 = 0 := by
  have := bits_mask .i64 62 (by decide) wraps_i64 0 (by decide) x h0 (by omega)
  simpa using this
theorem wrap_small (c : Nat) (h : c < 1000000000000) : wrap64 (c : Int) = c := by unfold wrap64; omega
theorem or_byte (x : Int) (c : Nat) (h0 : 0 ≤ x) (hx : x < 1000000) (hc : c < 256) : bits .or .i64 (x * 256) (c : Int) = x * 256 + c := by
  exact bits_join .i64 62 (by decide) wraps_i64 8 (x * 256) (c : Int) (by omega) (by omega) (by omega) (by omega) (by omega) (by omega)
theorem or_six (x c : Int) (h0 : 0 ≤ x) (hx : x < 1000000) (hc0 : 0 ≤ c) (hc : c < 64) : bits .or .i64 (x * 64) c = x * 64 + c :=
  bits_join .i64 62 (by decide) wraps_i64 6 (x * 64) c (by omega) (by omega) (by omega) (by omega) (by omega) (by omega)
/-- The letters. -/
def b64Tab : ByteArray := ⟨#[65, 66, 67, 68, 69, 70, 71, 72, 73, 74, 75, 76, 77, 78, 79, 80, 81, 82, 83, 84, 85, 86, 87, 88, 89, 90, 97, 98, 99, 100, 101, 102, 103, 104, 105, 106, 107, 108, 109, 110, 111, 112, 113, 114, 115, 116, 117, 118, 119, 120, 121, 122, 48, 49, 50, 51, 52, 53, 54, 55, 56, 57, 45, 95]⟩
theorem b64Tab_at (d : Nat) (h : d < 64) : b64Tab.data.toList[d]? = some (b64Dig d) := by
  have : ∀ d : Fin 64, b64Tab.data.toList[d.1]? = some (b64Dig d.1) := by decide +kernel
  exact this ⟨d, h⟩

theorem b64Tab_el (d : Nat) (h : d < 64) (h' : d < b64Tab.size) : b64Tab[d] = b64Dig d := by
  have := b64Tab_at d h
  rw [List.getElem?_eq_getElem (by simpa using h')] at this
  exact Option.some.inj this
theorem drop_cons (s : ByteArray) (k : Nat) (h : k < s.size) : s.data.toList.drop k = s[k] :: s.data.toList.drop (k + 1) :=
  List.drop_eq_getElem_cons (by simpa using h)
theorem b64_step0 {s : ByteArray} {k c d y : Nat} {pre L : List UInt8} (hk : k < s.size) (hc : s[k].toNat = c) (hd : c / 4 = d) (hy : c % 4 = y) (HP : pre ++ b64E (s.data.toList.drop k) 0 0 = L) :
    (pre ++ [b64Dig d]) ++ b64E (s.data.toList.drop (k + 1)) 2 y = L := by
  rw [drop_cons s k hk, b64E, hc, hd, hy] at HP
  rw [← HP]; simp
theorem b64_step2 {s : ByteArray} {k c d y x : Nat} {pre L : List UInt8} (hk : k < s.size) (hc : s[k].toNat = c) (hd : x * 16 + c / 16 = d) (hy : c % 16 = y) (HP : pre ++ b64E (s.data.toList.drop k) 2 x = L) :
    (pre ++ [b64Dig d]) ++ b64E (s.data.toList.drop (k + 1)) 4 y = L := by
  rw [drop_cons s k hk, b64E, hc, hd, hy] at HP
  rw [← HP]; simp
theorem b64_step4 {s : ByteArray} {k c d y x : Nat} {pre L : List UInt8} (hk : k < s.size) (hc : s[k].toNat = c) (hd : x * 4 + c / 64 = d) (hy : c % 64 = y) (HP : pre ++ b64E (s.data.toList.drop k) 4 x = L) :
    (pre ++ [b64Dig d] ++ [b64Dig y]) ++ b64E (s.data.toList.drop (k + 1)) 0 0 = L := by
  rw [drop_cons s k hk, b64E, hc, hd, hy] at HP
  · rw [← HP]; simp
  all_goals omega
theorem b64_end0 {s : ByteArray} {k : Nat} {pre : List UInt8} (hk : ¬ k < s.size) (HP : pre ++ b64E (s.data.toList.drop k) 0 0 = b64L s.data.toList) : (⟨pre.toArray⟩ : ByteArray) = b64S s := by
  rw [List.drop_of_length_le (by simp; have : s.size = s.data.size := rfl; omega), b64E, List.append_nil] at HP
  rw [b64S, ← HP]
theorem b64_end2 {s : ByteArray} {k x d : Nat} {pre : List UInt8} (hk : ¬ k < s.size) (hd : x * 16 = d) (HP : pre ++ b64E (s.data.toList.drop k) 2 x = b64L s.data.toList) : (⟨(pre ++ [b64Dig d]).toArray⟩ : ByteArray) = b64S s := by
  rw [List.drop_of_length_le (by simp; have : s.size = s.data.size := rfl; omega), b64E, hd] at HP
  rw [b64S, ← HP]
theorem b64_end4 {s : ByteArray} {k x d : Nat} {pre : List UInt8} (hk : ¬ k < s.size) (hd : x * 4 = d) (HP : pre ++ b64E (s.data.toList.drop k) 4 x = b64L s.data.toList) : (⟨(pre ++ [b64Dig d]).toArray⟩ : ByteArray) = b64S s := by
  rw [List.drop_of_length_le (by simp; have : s.size = s.data.size := rfl; omega), b64E, hd] at HP
  · rw [b64S, ← HP]
  all_goals omega

set_option maxHeartbeats 2000000 in
theorem base64_big (s : ByteArray) (w : World) (hs : (4 * s.size + 2) / 3 ≤ 140737488355327) :
    Calls Tryz.prog 84 #[.string s] w fun e w' => e = .returned (.string (b64S s)) ∧ Below w.heap.size w w' := by
  go_enter Tryz.func84, Tryz.ntmps84
  go_wp2
  go_loopw [4, 5, 6, 9] (fun bits n _ j wr => ∃ (k N x : Nat) (pre : List UInt8), k ≤ s.size ∧ j = .int .i64 k ∧ n = .int .i64 N ∧ bits = .int .i64 x ∧ ((N = 0 ∧ x = 0) ∨ (N = 2 ∧ x < 4) ∨ (N = 4 ∧ x < 16)) ∧ Bld w.heap.size w.heap.size pre wr ∧ Hid (pre ++ b64E (s.data.toList.drop k) N x = b64L s.data.toList) ∧ 6 * pre.length + N = 8 * k ∧ Below w.heap.size w wr) (fun _ _ _ i _ => s.size - (intOf i).toNat)
  case atStart => exact ⟨0, 0, 0, [], Nat.zero_le _, rfl, rfl, rfl, .inl ⟨rfl, rfl⟩, Bld.fresh w, Lib.hid rfl, by simp, (Below.refl _ _).alloc (Nat.le_refl _) _⟩
  case round =>
    obtain ⟨k, N, x, pre, hk, rfl, rfl, rfl, hcs, hB, HP, hpl, hbr⟩ := hrel
    by_cases hlt : k < s.size
    · obtain ⟨c, hc⟩ : ∃ c, s[k].toNat = c := ⟨_, rfl⟩
      have HC := Lib.hid hc
      have hcl : c < 256 := hc ▸ s[k].toNat_lt
      rcases hcs with ⟨rfl, rfl⟩ | ⟨rfl, hx⟩ | ⟨rfl, hx⟩
      · have eor : bits BinOp.or IntKind.i64 0 (c : Int) = c := by simpa using or_byte 0 c (by omega) (by omega) hcl
        obtain ⟨d, HD⟩ : ∃ d, Hid (c / 4 = d) := ⟨_, Lib.hid rfl⟩
        have hdl : d < 64 := by have := HD.out; omega
        have eand : bits BinOp.and IntKind.i64 ((c : Int) / 4) 63 = (d : Int) := by rw [i64_and63 _ (by omega) (by omega)]; have := HD.out; omega
        obtain ⟨y, HY⟩ : ∃ y, Hid (c % 4 = y) := ⟨_, Lib.hid rfl⟩
        have hyl : y < 4 := by have := HY.out; omega
        have emask : bits BinOp.and IntKind.i64 (c : Int) 3 = (y : Int) := by rw [i64_and3 _ (by omega) (by omega)]; have := HY.out; omega
        go_wp2_with fail
        refine wp_loop_rounds 2 ?_
        rw [rounds_succ]
        go_wp2_with fail
        refine (writeByte_any _ _ pre _ _ hB (by omega) hbr.size).mono ?_
        rintro e w1 ⟨rfl, hB1, hb1⟩
        go_wp2_with fail
        rw [rounds_succ]
        go_wp2_with fail
        have ed : b64Tab[d]'hdl = b64Dig d := b64Tab_el d hdl hdl
        have hP := b64_step0 hlt HC.out HD.out HY.out HP.out
        rw [← ed] at hP
        exact ⟨⟨k + 1, 2, y, pre ++ [b64Tab[d]'hdl], by omega, by go_num, rfl, rfl, .inr (.inl ⟨rfl, hyl⟩), hB1, Lib.hid hP, by simp; omega, hbr.trans hb1⟩, by simp [intOf]; omega⟩
      · obtain ⟨z, HZ⟩ : ∃ z, Hid (x * 256 + c = z) := ⟨_, Lib.hid rfl⟩
        have hzl : z < 1024 := by have := HZ.out; omega
        have eor : bits BinOp.or IntKind.i64 ((x : Int) * 256) (c : Int) = (z : Int) := by rw [or_byte x c (by omega) (by omega) hcl]; have := HZ.out; omega
        obtain ⟨d, HD⟩ : ∃ d, Hid (z / 16 = d) := ⟨_, Lib.hid rfl⟩
        have hdl : d < 64 := by have := HD.out; omega
        have eand : bits BinOp.and IntKind.i64 ((z : Int) / 16) 63 = (d : Int) := by rw [i64_and63 _ (by omega) (by omega)]; have := HD.out; omega
        obtain ⟨y, HY⟩ : ∃ y, Hid (z % 16 = y) := ⟨_, Lib.hid rfl⟩
        have hyl : y < 16 := by have := HY.out; omega
        have emask : bits BinOp.and IntKind.i64 (z : Int) 15 = (y : Int) := by rw [i64_and15 _ (by omega) (by omega)]; have := HY.out; omega
        clear hzl
        have hz0 : 0 ≤ (z : Int) := by omega
        go_wp2_with fail
        refine wp_loop_rounds 2 ?_
        rw [rounds_succ]
        go_wp2_with fail
        refine (writeByte_any _ _ pre _ _ hB (by omega) hbr.size).mono ?_
        rintro e w1 ⟨rfl, hB1, hb1⟩
        go_wp2_with fail
        rw [rounds_succ]
        go_wp2_with fail
        have ed : b64Tab[d]'hdl = b64Dig d := b64Tab_el d hdl hdl
        have hP := b64_step2 (d := d) (y := y) hlt HC.out (by have := HD.out; have := HZ.out; have : c < 256 := HC.out ▸ s[k].toNat_lt; omega) (by have := HY.out; have := HZ.out; omega) HP.out
        rw [← ed] at hP
        exact ⟨⟨k + 1, 4, y, pre ++ [b64Tab[d]'hdl], by omega, by go_num, rfl, rfl, .inr (.inr ⟨rfl, hyl⟩), hB1, Lib.hid hP, by simp; omega, hbr.trans hb1⟩, by simp [intOf]; omega⟩
      · obtain ⟨z, HZ⟩ : ∃ z, Hid (x * 256 + c = z) := ⟨_, Lib.hid rfl⟩
        have hzl : z < 4096 := by have := HZ.out; omega
        have eor : bits BinOp.or IntKind.i64 ((x : Int) * 256) (c : Int) = (z : Int) := by rw [or_byte x c (by omega) (by omega) hcl]; have := HZ.out; omega
        obtain ⟨d, HD⟩ : ∃ d, Hid (z / 64 = d) := ⟨_, Lib.hid rfl⟩
        have hdl : d < 64 := by have := HD.out; omega
        have eand : bits BinOp.and IntKind.i64 ((z : Int) / 64) 63 = (d : Int) := by rw [i64_and63 _ (by omega) (by omega)]; have := HD.out; omega
        obtain ⟨y, HY⟩ : ∃ y, Hid (z % 64 = y) := ⟨_, Lib.hid rfl⟩
        have hyl : y < 64 := by have := HY.out; omega
        have eand2 : bits BinOp.and IntKind.i64 (z : Int) 63 = (y : Int) := by rw [i64_and63 _ (by omega) (by omega)]; have := HY.out; omega
        have emask : bits BinOp.and IntKind.i64 (z : Int) 0 = 0 := i64_and0 _ (by omega) (by omega)
        clear hzl
        have hz0 : 0 ≤ (z : Int) := by omega
        go_wp2_with fail
        refine wp_loop_rounds 3 ?_
        rw [rounds_succ]
        go_wp2_with fail
        refine (writeByte_any _ _ pre _ _ hB (by omega) hbr.size).mono ?_
        rintro e w1 ⟨rfl, hB1, hb1⟩
        go_wp2_with fail
        rw [rounds_succ]
        go_wp2_with fail
        refine (writeByte_any _ _ _ _ _ hB1 (by simp; omega) (Nat.le_trans hbr.size hb1.size)).mono ?_
        rintro e w2 ⟨rfl, hB2, hb2⟩
        go_wp2_with fail
        rw [rounds_succ]
        go_wp2_with fail
        have ed : b64Tab[d]'hdl = b64Dig d := b64Tab_el d hdl hdl
        have ey : b64Tab[y]'hyl = b64Dig y := b64Tab_el y hyl hyl
        have hP := b64_step4 (d := d) (y := y) hlt HC.out (by have := HD.out; have := HZ.out; have : c < 256 := HC.out ▸ s[k].toNat_lt; omega) (by have := HY.out; have := HZ.out; omega) HP.out
        rw [← ed, ← ey] at hP
        exact ⟨⟨k + 1, 0, 0, pre ++ [b64Tab[d]'hdl] ++ [b64Tab[y]'hyl], by omega, by go_num, rfl, rfl, .inl ⟨rfl, rfl⟩, hB2, Lib.hid hP, by simp; omega, (hbr.trans hb1).trans hb2⟩, by simp [intOf]; omega⟩
    · rcases hcs with ⟨rfl, rfl⟩ | ⟨rfl, hx⟩ | ⟨rfl, hx⟩
      · go_wp2_with fail
        refine (bldString_any _ _ pre _ hB hbr.size).mono ?_
        rintro e w1 ⟨rfl, hb1⟩
        go_wp2_with fail
        go_ret
        exact ⟨ret_str (b64_end0 hlt HP.out), hbr.trans hb1⟩
      · obtain ⟨d, HD⟩ : ∃ d, Hid (x * 16 = d) := ⟨_, Lib.hid rfl⟩
        have hdl : d < 64 := by have := HD.out; omega
        have eand : bits BinOp.and IntKind.i64 ((x : Int) * 16) 63 = (d : Int) := by rw [i64_and63 _ (by omega) (by omega)]; have := HD.out; omega
        go_wp2_with fail
        refine (writeByte_any _ _ pre _ _ hB (by omega) hbr.size).mono ?_
        rintro e w1 ⟨rfl, hB1, hb1⟩
        go_wp2_with fail
        refine (bldString_any _ _ _ _ hB1 (Nat.le_trans hbr.size hb1.size)).mono ?_
        rintro e w2 ⟨rfl, hb2⟩
        go_wp2_with fail
        go_ret
        have ed : b64Tab[d]'hdl = b64Dig d := b64Tab_el d hdl hdl
        have hE := b64_end2 hlt HD.out HP.out
        rw [← ed] at hE
        exact ⟨ret_str hE, (hbr.trans hb1).trans hb2⟩
      · obtain ⟨d, HD⟩ : ∃ d, Hid (x * 4 = d) := ⟨_, Lib.hid rfl⟩
        have hdl : d < 64 := by have := HD.out; omega
        have eand : bits BinOp.and IntKind.i64 ((x : Int) * 4) 63 = (d : Int) := by rw [i64_and63 _ (by omega) (by omega)]; have := HD.out; omega
        go_wp2_with fail
        refine (writeByte_any _ _ pre _ _ hB (by omega) hbr.size).mono ?_
        rintro e w1 ⟨rfl, hB1, hb1⟩
        go_wp2_with fail
        refine (bldString_any _ _ _ _ hB1 (Nat.le_trans hbr.size hb1.size)).mono ?_
        rintro e w2 ⟨rfl, hb2⟩
        go_wp2_with fail
        go_ret
        have ed : b64Tab[d]'hdl = b64Dig d := b64Tab_el d hdl hdl
        have hE := b64_end4 hlt HD.out HP.out
        rw [← ed] at hE
        exact ⟨ret_str hE, (hbr.trans hb1).trans hb2⟩
theorem base64_any (s : ByteArray) (w : World) (hs : s.size ≤ 1000000000) :
    Calls Tryz.prog 84 #[.string s] w fun e w' => e = .returned (.string (b64S s)) ∧ Below w.heap.size w w' := base64_big s w (by omega)
end Go.Proofs.YtiiioefjdebggaaGreatDoor

/- codec.ReadBase64 reads what b64S writes, and nothing else. -/
namespace Go.Proofs.YtiiioefjdebggaaGreatDoor
open Go.RowKit

theorem b64_index (c : UInt8) : Lib.indexByte b64Tab.data.toList c = match b64Val c with | none => -1 | some v => (v : Int) := by
  have : ∀ n : Fin 256, Lib.indexByte b64Tab.data.toList (UInt8.ofNat n.1) = match b64Val (UInt8.ofNat n.1) with | none => -1 | some d => (d : Int) := by decide +kernel
  have h := this ⟨c.toNat, c.toNat_lt⟩
  simpa using h
/-- strings.IndexByte in the letters. -/
theorem index_letter (c : UInt8) (w : World) :
    Calls Tryz.prog 102 #[.string b64Tab, .int .u8 (c.toNat : Int)] w fun e w' => e = .returned (.int .i64 (match b64Val c with | none => -1 | some v => (v : Int))) ∧ w = w' := by
  refine (Tryz.strings_IndexByte b64Tab (c.toNat : Int) w).mono ?_
  rintro e w' ⟨rfl, rfl⟩
  refine ⟨ret_int ?_, rfl⟩
  rw [← b64_index]
  simp
theorem index_letter_none (c : UInt8) (w : World) (h : b64Val c = none) :
    Calls Tryz.prog 102 #[.string b64Tab, .int .u8 (c.toNat : Int)] w fun e w' => e = .returned (.int .i64 (-1)) ∧ w = w' := by
  have := index_letter c w; rw [h] at this; exact this
theorem index_letter_some (c : UInt8) (v : Nat) (w : World) (h : b64Val c = some v) :
    Calls Tryz.prog 102 #[.string b64Tab, .int .u8 (c.toNat : Int)] w fun e w' => e = .returned (.int .i64 (v : Int)) ∧ w = w' := by
  have := index_letter c w; rw [h] at this; exact this

theorem r64_none {s : ByteArray} {k N x : Nat} {c : UInt8} {pre : List UInt8} {L : Option (List UInt8)} (hk : k < s.size) (hc : s[k] = c) (hv : b64Val c = none) (HP : (b64D (s.data.toList.drop k) N x).map (pre ++ ·) = L) : L = none := by
  rw [drop_cons s k hk, hc] at HP
  rw [← HP]
  unfold b64D
  split <;> simp_all
theorem r64_step0 {s : ByteArray} {k v : Nat} {c : UInt8} {pre : List UInt8} {L : Option (List UInt8)} (hk : k < s.size) (hc : s[k] = c) (hv : b64Val c = some v) (HP : (b64D (s.data.toList.drop k) 0 0).map (pre ++ ·) = L) :
    (b64D (s.data.toList.drop (k + 1)) 6 v).map (pre ++ ·) = L := by
  rw [drop_cons s k hk, hc, b64D, hv] at HP
  simpa using HP
theorem r64_snoc {o : Option (List UInt8)} {pre : List UInt8} {q : UInt8} : (o.map fun t => q :: t).map (pre ++ ·) = o.map ((pre ++ [q]) ++ ·) := by
  cases o <;> simp
theorem r64_step2 {s : ByteArray} {k v x : Nat} {c q : UInt8} {pre : List UInt8} {L : Option (List UInt8)} (hk : k < s.size) (hc : s[k] = c) (hv : b64Val c = some v) (hq : UInt8.ofNat (x * 64 + v) = q) (HP : (b64D (s.data.toList.drop k) 2 x).map (pre ++ ·) = L) :
    (b64D (s.data.toList.drop (k + 1)) 0 0).map ((pre ++ [q]) ++ ·) = L := by
  rw [drop_cons s k hk, hc, b64D, hv, Option.bind_some, hq, r64_snoc] at HP
  exact HP
theorem r64_step4 {s : ByteArray} {k v x y : Nat} {c q : UInt8} {pre : List UInt8} {L : Option (List UInt8)} (hk : k < s.size) (hc : s[k] = c) (hv : b64Val c = some v) (hq : UInt8.ofNat (x * 16 + v / 4) = q) (hy : v % 4 = y) (HP : (b64D (s.data.toList.drop k) 4 x).map (pre ++ ·) = L) :
    (b64D (s.data.toList.drop (k + 1)) 2 y).map ((pre ++ [q]) ++ ·) = L := by
  rw [drop_cons s k hk, hc, b64D, hv, Option.bind_some, hq, hy, r64_snoc] at HP
  exact HP
theorem r64_step6 {s : ByteArray} {k v x y : Nat} {c q : UInt8} {pre : List UInt8} {L : Option (List UInt8)} (hk : k < s.size) (hc : s[k] = c) (hv : b64Val c = some v) (hq : UInt8.ofNat (x * 4 + v / 16) = q) (hy : v % 16 = y) (HP : (b64D (s.data.toList.drop k) 6 x).map (pre ++ ·) = L) :
    (b64D (s.data.toList.drop (k + 1)) 4 y).map ((pre ++ [q]) ++ ·) = L := by
  rw [drop_cons s k hk, hc, b64D, hv, Option.bind_some, hq, hy, r64_snoc] at HP
  · exact HP
  all_goals omega
theorem r64_end {s : ByteArray} {k N x : Nat} {pre : List UInt8} (hk : ¬ k < s.size) (HP : (b64D (s.data.toList.drop k) N x).map (pre ++ ·) = b64D s.data.toList 0 0) :
    readB64O s = if N < 6 ∧ x = 0 then some ⟨pre.toArray⟩ else none := by
  rw [List.drop_of_length_le (by simp; have : s.size = s.data.size := rfl; omega), b64D] at HP
  unfold readB64O
  rw [← HP]
  by_cases h : N < 6 ∧ x = 0 <;> simp [h]
theorem read_bad {s : ByteArray} (h : readB64O s = none) : readB64S s = ⟨#[]⟩ ∧ readB64Err s = 4 := by
  simp [readB64S, readB64Err, h]; rfl
theorem read_good {s t : ByteArray} (h : readB64O s = some t) : readB64S s = t ∧ readB64Err s = 0 := by
  simp [readB64S, readB64Err, h]
theorem ret_se {a b : ByteArray} {x y : Int} (h1 : a = b) (h2 : x = y) : Ending.returned (.tuple #[.string a, .int .i64 x]) = .returned (.tuple #[.string b, .int .i64 y]) := by rw [h1, h2]
theorem b64Val_lt {c : UInt8} {v : Nat} (h : b64Val c = some v) : v < 64 := (b64Dig_val h).2
theorem wrap_u8 (z : Nat) : IntKind.u8.wrap (z : Int) = ((UInt8.ofNat z).toNat : Int) := by
  rw [IntKind.wrap_u8]; simp

set_option maxHeartbeats 2000000 in
theorem readb64_any (s : ByteArray) (w : World) (hs : s.size ≤ 140737488355327) :
    Calls Tryz.prog 58 #[.string s] w fun e w' => e = .returned (.tuple #[.string (readB64S s), .int .i64 (readB64Err s)]) ∧ Below w.heap.size w w' := by
  go_enter Tryz.func58, Tryz.ntmps58
  go_wp2_with fail
  go_loopw [5, 6, 7, 8, 11] (fun bits n _ _ j wr => ∃ (k N x : Nat) (pre : List UInt8), k ≤ s.size ∧ j = .int .i64 k ∧ n = .int .i64 N ∧ bits = .int .i64 x ∧ ((N = 0 ∧ x = 0) ∨ (N = 2 ∧ x < 4) ∨ (N = 4 ∧ x < 16) ∨ (N = 6 ∧ x < 64)) ∧ Bld w.heap.size w.heap.size pre wr ∧ Hid ((b64D (s.data.toList.drop k) N x).map (pre ++ ·) = b64D s.data.toList 0 0) ∧ pre.length ≤ k ∧ Below w.heap.size w wr) (fun _ _ _ _ i _ => s.size - (intOf i).toNat)
  case atStart => exact ⟨0, 0, 0, [], Nat.zero_le _, rfl, rfl, rfl, .inl ⟨rfl, rfl⟩, Bld.fresh w, Lib.hid (by simp), Nat.zero_le _, (Below.refl _ _).alloc (Nat.le_refl _) _⟩
  case round =>
    obtain ⟨k, N, x, pre, hk, rfl, rfl, rfl, hcs, hB, HP, hpl, hbr⟩ := hrel
    by_cases hlt : k < s.size
    · obtain ⟨c, hc⟩ : ∃ c, s[k] = c := ⟨_, rfl⟩
      have HC := Lib.hid hc
      cases hv : b64Val c with
      | none =>
        have HV := Lib.hid hv
        clear hv
        go_wp2_with fail
        refine (index_letter_none _ _ HV.out).mono ?_
        rintro e w1 ⟨rfl, rfl⟩
        go_wp2_with fail
        go_ret2
        have hN := read_bad (s := s) (by unfold readB64O; rw [r64_none hlt HC.out HV.out HP.out]; rfl)
        exact ⟨ret_se hN.1.symm hN.2.symm, hbr⟩
      | some v =>
        have HV := Lib.hid hv
        have hvl := b64Val_lt hv
        clear hv
        rcases hcs with ⟨rfl, rfl⟩ | ⟨rfl, hx⟩ | ⟨rfl, hx⟩ | ⟨rfl, hx⟩
        · have eor : bits BinOp.or IntKind.i64 0 (v : Int) = v := by simpa using or_six 0 v (by omega) (by omega) (by omega) (by omega)
          go_wp2_with fail
          refine (index_letter_some _ _ _ HV.out).mono ?_
          rintro e w1 ⟨rfl, rfl⟩
          go_wp2_with fail
          go_roundw
          case rel => exact ⟨k + 1, 6, v, pre, by omega, by go_num, rfl, rfl, .inr (.inr (.inr ⟨rfl, hvl⟩)), hB, Lib.hid (r64_step0 hlt HC.out HV.out HP.out), by omega, hbr⟩
          case measure => simp [intOf]; omega
        · obtain ⟨z, HZ⟩ : ∃ z, Hid (x * 64 + v = z) := ⟨_, Lib.hid rfl⟩
          have hzl : z < 4096 := by have := HZ.out; omega
          have eor : bits BinOp.or IntKind.i64 ((x : Int) * 64) (v : Int) = (z : Int) := by rw [or_six x v (by omega) (by omega) (by omega) (by omega)]; have := HZ.out; omega
          have hz0 : 0 ≤ (z : Int) := by omega
          obtain ⟨q, HQ⟩ : ∃ q, Hid (UInt8.ofNat (x * 64 + v) = q) := ⟨_, Lib.hid rfl⟩
          have eb : IntKind.u8.wrap (z : Int) = (q.toNat : Int) := by rw [wrap_u8, ← HQ.out, HZ.out]
          have emask : bits BinOp.and IntKind.i64 (z : Int) 0 = 0 := i64_and0 _ (by omega) (by omega)
          go_wp2_with fail
          refine (index_letter_some _ _ _ HV.out).mono ?_
          rintro e w1 ⟨rfl, rfl⟩
          go_wp2_with fail
          refine (writeByte_any _ _ pre _ _ hB (by omega) hbr.size).mono ?_
          rintro e w1 ⟨rfl, hB1, hb1⟩
          go_wp2_with fail
          go_roundw
          case rel => exact ⟨k + 1, 0, 0, pre ++ [q], by omega, by go_num, rfl, rfl, .inl ⟨rfl, rfl⟩, hB1, Lib.hid (r64_step2 hlt HC.out HV.out HQ.out HP.out), by simp; omega, hbr.trans hb1⟩
          case measure => simp [intOf]; omega
        · obtain ⟨z, HZ⟩ : ∃ z, Hid (x * 64 + v = z) := ⟨_, Lib.hid rfl⟩
          have hzl : z < 4096 := by have := HZ.out; omega
          have eor : bits BinOp.or IntKind.i64 ((x : Int) * 64) (v : Int) = (z : Int) := by rw [or_six x v (by omega) (by omega) (by omega) (by omega)]; have := HZ.out; omega
          have hz0 : 0 ≤ (z : Int) := by omega
          obtain ⟨q, HQ⟩ : ∃ q, Hid (UInt8.ofNat (x * 16 + v / 4) = q) := ⟨_, Lib.hid rfl⟩
          have eb : IntKind.u8.wrap ((z : Int) / 4) = (q.toNat : Int) := by
            have e1 : (z : Int) / 4 = ((x * 16 + v / 4 : Nat) : Int) := by have := HZ.out; omega
            rw [e1, wrap_u8, ← HQ.out]
          obtain ⟨y, HY⟩ : ∃ y, Hid (v % 4 = y) := ⟨_, Lib.hid rfl⟩
          have hyl : y < 4 := by have := HY.out; omega
          have emask : bits BinOp.and IntKind.i64 (z : Int) 3 = (y : Int) := by rw [i64_and3 _ (by omega) (by omega)]; have := HY.out; have := HZ.out; omega
          go_wp2_with fail
          refine (index_letter_some _ _ _ HV.out).mono ?_
          rintro e w1 ⟨rfl, rfl⟩
          go_wp2_with fail
          refine (writeByte_any _ _ pre _ _ hB (by omega) hbr.size).mono ?_
          rintro e w1 ⟨rfl, hB1, hb1⟩
          go_wp2_with fail
          go_roundw
          case rel => exact ⟨k + 1, 2, y, pre ++ [q], by omega, by go_num, rfl, rfl, .inr (.inl ⟨rfl, hyl⟩), hB1, Lib.hid (r64_step4 hlt HC.out HV.out HQ.out HY.out HP.out), by simp; omega, hbr.trans hb1⟩
          case measure => simp [intOf]; omega
        · obtain ⟨z, HZ⟩ : ∃ z, Hid (x * 64 + v = z) := ⟨_, Lib.hid rfl⟩
          have hzl : z < 4096 := by have := HZ.out; omega
          have eor : bits BinOp.or IntKind.i64 ((x : Int) * 64) (v : Int) = (z : Int) := by rw [or_six x v (by omega) (by omega) (by omega) (by omega)]; have := HZ.out; omega
          have hz0 : 0 ≤ (z : Int) := by omega
          obtain ⟨q, HQ⟩ : ∃ q, Hid (UInt8.ofNat (x * 4 + v / 16) = q) := ⟨_, Lib.hid rfl⟩
          have eb : IntKind.u8.wrap ((z : Int) / 16) = (q.toNat : Int) := by
            have e1 : (z : Int) / 16 = ((x * 4 + v / 16 : Nat) : Int) := by have := HZ.out; omega
            rw [e1, wrap_u8, ← HQ.out]
          obtain ⟨y, HY⟩ : ∃ y, Hid (v % 16 = y) := ⟨_, Lib.hid rfl⟩
          have hyl : y < 16 := by have := HY.out; omega
          have emask : bits BinOp.and IntKind.i64 (z : Int) 15 = (y : Int) := by rw [i64_and15 _ (by omega) (by omega)]; have := HY.out; have := HZ.out; omega
          go_wp2_with fail
          refine (index_letter_some _ _ _ HV.out).mono ?_
          rintro e w1 ⟨rfl, rfl⟩
          go_wp2_with fail
          refine (writeByte_any _ _ pre _ _ hB (by omega) hbr.size).mono ?_
          rintro e w1 ⟨rfl, hB1, hb1⟩
          go_wp2_with fail
          go_roundw
          case rel => exact ⟨k + 1, 4, y, pre ++ [q], by omega, by go_num, rfl, rfl, .inr (.inr (.inl ⟨rfl, hyl⟩)), hB1, Lib.hid (r64_step6 hlt HC.out HV.out HQ.out HY.out HP.out), by simp; omega, hbr.trans hb1⟩
          case measure => simp [intOf]; omega
    · have HE := Lib.hid (r64_end hlt HP.out)
      by_cases h6 : N < 6
      · by_cases hx0 : x = 0
        · subst hx0
          have hG := Lib.hid (read_good (HE.out.trans (if_pos ⟨h6, rfl⟩)))
          clear hcs
          go_wp2_with fail
          refine (bldString_any _ _ pre _ hB hbr.size).mono ?_
          rintro e w1 ⟨rfl, hb1⟩
          go_wp2_with fail
          go_ret2
          exact ⟨ret_se hG.out.1.symm hG.out.2.symm, hbr.trans hb1⟩
        · have hG := Lib.hid (read_bad (HE.out.trans (if_neg (fun h => hx0 h.2))))
          have hxb : ((x : Int) != 0) = true := by rw [bne_iff_ne]; omega
          clear hcs hx0
          go_wp2_with fail
          go_ret2
          exact ⟨ret_se hG.out.1.symm hG.out.2.symm, hbr⟩
      · have hG := Lib.hid (read_bad (HE.out.trans (if_neg (fun h => h6 h.1))))
        clear hcs
        go_wp2_with fail
        go_ret2
        exact ⟨ret_se hG.out.1.symm hG.out.2.symm, hbr⟩
end Go.Proofs.YtiiioefjdebggaaGreatDoor

/- codec.Escape and codec.Unescape compute escS, unescS. -/
namespace Go.Proofs.YtiiioefjdebggaaGreatDoor
open Go.RowKit

def sepTab : ByteArray := ⟨#[37, 124, 44, 61, 59, 34]⟩
def hexTab : ByteArray := ⟨#[48, 49, 50, 51, 52, 53, 54, 55, 56, 57, 65, 66, 67, 68, 69, 70]⟩
/-- A separator. -/
def sepB (c : UInt8) : Bool := decide (c.toNat = 37 ∨ c.toNat = 124 ∨ c.toNat = 44 ∨ c.toNat = 61 ∨ c.toNat = 59 ∨ c.toNat = 34)
theorem plainB_eq (c : UInt8) : plainB c = (decide (33 ≤ c.toNat) && (decide (c.toNat ≤ 126) && !sepB c)) := by
  have : ∀ n : Fin 256, plainB (UInt8.ofNat n.1) = (decide (33 ≤ (UInt8.ofNat n.1).toNat) && (decide ((UInt8.ofNat n.1).toNat ≤ 126) && !sepB (UInt8.ofNat n.1))) := by decide +kernel
  have h := this ⟨c.toNat, c.toNat_lt⟩
  simpa using h
theorem sep_index (c : UInt8) : (sepB c = true → 0 ≤ Lib.indexByte sepTab.data.toList c) ∧ (sepB c = false → Lib.indexByte sepTab.data.toList c = -1) := by
  have : ∀ n : Fin 256, (sepB (UInt8.ofNat n.1) = true → 0 ≤ Lib.indexByte sepTab.data.toList (UInt8.ofNat n.1)) ∧ (sepB (UInt8.ofNat n.1) = false → Lib.indexByte sepTab.data.toList (UInt8.ofNat n.1) = -1) := by decide +kernel
  have h := this ⟨c.toNat, c.toNat_lt⟩
  simpa using h
theorem hex_index (c : UInt8) : Lib.indexByte hexTab.data.toList c = match hexV c with | none => -1 | some v => (v : Int) := by
  have : ∀ n : Fin 256, Lib.indexByte hexTab.data.toList (UInt8.ofNat n.1) = match hexV (UInt8.ofNat n.1) with | none => -1 | some d => (d : Int) := by decide +kernel
  have h := this ⟨c.toNat, c.toNat_lt⟩
  simpa using h
theorem hexTab_el (d : Nat) (h : d < 16) (h' : d < hexTab.size) : hexTab[d] = hexU d := by
  have : ∀ d : Fin 16, hexTab.data.toList[d.1]? = some (hexU d.1) := by decide +kernel
  have := this ⟨d, h⟩
  rw [List.getElem?_eq_getElem (by simpa using h')] at this
  exact Option.some.inj this
theorem hex_lit (d : Nat) (h : d < 16) : (⟨#[48, 49, 50, 51, 52, 53, 54, 55, 56, 57, 65, 66, 67, 68, 69, 70]⟩ : ByteArray)[d]'h = hexU d := hexTab_el d h h
theorem hexV_lt {c : UInt8} {v : Nat} (h : hexV c = some v) : v < 16 := (hexU_val h).2
theorem or_four (x c : Int) (h0 : 0 ≤ x) (hx : x < 1000000) (hc0 : 0 ≤ c) (hc : c < 16) : bits .or .i64 (x * 16) c = x * 16 + c :=
  bits_join .i64 62 (by decide) wraps_i64 4 (x * 16) c (by omega) (by omega) (by omega) (by omega) (by omega) (by omega)
/-- strings.IndexByte in the separators. -/
theorem index_sep (c : UInt8) (w : World) :
    Calls Tryz.prog 102 #[.string sepTab, .int .u8 (c.toNat : Int)] w fun e w' => e = .returned (.int .i64 (Lib.indexByte sepTab.data.toList c)) ∧ w = w' := by
  refine (Tryz.strings_IndexByte sepTab (c.toNat : Int) w).mono ?_
  rintro e w' ⟨rfl, rfl⟩
  exact ⟨ret_int (by simp), rfl⟩
theorem index_hex (c : UInt8) (w : World) :
    Calls Tryz.prog 102 #[.string hexTab, .int .u8 (c.toNat : Int)] w fun e w' => e = .returned (.int .i64 (match hexV c with | none => -1 | some v => (v : Int))) ∧ w = w' := by
  refine (Tryz.strings_IndexByte hexTab (c.toNat : Int) w).mono ?_
  rintro e w' ⟨rfl, rfl⟩
  refine ⟨ret_int ?_, rfl⟩
  rw [← hex_index]
  simp
theorem index_hexI (c : UInt8) (w : World) :
    Calls Tryz.prog 102 #[.string hexTab, .int .u8 (c.toNat : Int)] w fun e w' => e = .returned (.int .i64 (Lib.indexByte hexTab.data.toList c)) ∧ w = w' := by
  refine (Tryz.strings_IndexByte hexTab (c.toNat : Int) w).mono ?_
  rintro e w' ⟨rfl, rfl⟩
  exact ⟨ret_int (by simp), rfl⟩
theorem index_hex_at (c : UInt8) (z : Int) (w : World) (h : Lib.indexByte hexTab.data.toList c = z) :
    Calls Tryz.prog 102 #[.string hexTab, .int .u8 (c.toNat : Int)] w fun e w' => e = .returned (.int .i64 z) ∧ w = w' := by
  have := index_hexI c w; rw [h] at this; exact this
theorem index_hex_none (c : UInt8) (w : World) (h : hexV c = none) :
    Calls Tryz.prog 102 #[.string hexTab, .int .u8 (c.toNat : Int)] w fun e w' => e = .returned (.int .i64 (-1)) ∧ w = w' := by
  have := index_hex c w; rw [h] at this; exact this
theorem index_hex_some (c : UInt8) (v : Nat) (w : World) (h : hexV c = some v) :
    Calls Tryz.prog 102 #[.string hexTab, .int .u8 (c.toNat : Int)] w fun e w' => e = .returned (.int .i64 (v : Int)) ∧ w = w' := by
  have := index_hex c w; rw [h] at this; exact this

theorem plain_of {c : UInt8} {b : Bool} (h : b = (decide (33 ≤ c.toNat) && (decide (c.toNat ≤ 126) && !sepB c))) : b = plainB c := by rw [plainB_eq, h]
set_option maxHeartbeats 1000000 in
theorem cplain_any (c : UInt8) (w : World) :
    Calls Tryz.prog 147 #[.int .u8 (c.toNat : Int)] w fun e w' => e = .returned (.bool (plainB c)) ∧ w = w' := by
  have hcs : c.toNat < 33 ∨ 126 < c.toNat ∨ (33 ≤ c.toNat ∧ c.toNat ≤ 126) := by omega
  go_enter Tryz.func147, Tryz.ntmps147
  rcases hcs with h | h | ⟨h1, h2⟩
  · go_wp2_with fail
    go_ret
    exact ⟨ret_bool (plain_of (by simp [Nat.not_le.2 h])), rfl⟩
  · go_wp2_with fail
    go_ret
    exact ⟨ret_bool (plain_of (by simp [Nat.not_le.2 h])), rfl⟩
  · cases hs : sepB c with
    | true =>
      have h0 := (sep_index c).1 hs
      obtain ⟨i, hi⟩ := Int.eq_ofNat_of_zero_le h0
      have HI := Lib.hid hi
      have HS := Lib.hid hs
      clear hi h0 hs
      go_wp2_with fail
      refine (index_sep c w).mono ?_
      rintro e w1 ⟨rfl, rfl⟩
      rw [HI.out]
      go_wp2_with fail
      go_ret
      exact ⟨ret_bool (plain_of (by simp [HS.out])), rfl⟩
    | false =>
      have h0 := (sep_index c).2 hs
      have HI := Lib.hid h0
      have HS := Lib.hid hs
      clear h0 hs
      go_wp2_with fail
      refine (index_sep c w).mono ?_
      rintro e w1 ⟨rfl, rfl⟩
      rw [HI.out]
      go_wp2_with fail
      go_ret
      exact ⟨ret_bool (plain_of (by simp [HS.out, h1, h2])), rfl⟩

theorem esc_step1 {s : ByteArray} {k : Nat} {pre L : List UInt8} (hk : k < s.size) (hp : plainB s[k] = true) (HP : pre ++ escL (s.data.toList.drop k) = L) :
    (pre ++ [s[k]]) ++ escL (s.data.toList.drop (k + 1)) = L := by
  rw [drop_cons s k hk, escL, escC, if_pos hp] at HP
  rw [← HP]; simp
theorem esc_step3 {s : ByteArray} {k c a b : Nat} {pre L : List UInt8} (hk : k < s.size) (hp : plainB s[k] = false) (hc : s[k].toNat = c) (ha : c / 16 = a) (hb : c % 16 = b) (HP : pre ++ escL (s.data.toList.drop k) = L) :
    (pre ++ [37] ++ [hexU a] ++ [hexU b]) ++ escL (s.data.toList.drop (k + 1)) = L := by
  rw [drop_cons s k hk, escL, escC, if_neg (by rw [hp]; decide), hc, ha, hb] at HP
  rw [← HP]; simp
theorem esc_end {s : ByteArray} {k : Nat} {pre : List UInt8} (hk : ¬ k < s.size) (HP : pre ++ escL (s.data.toList.drop k) = escL s.data.toList) : (⟨pre.toArray⟩ : ByteArray) = escS s := by
  rw [List.drop_of_length_le (by simp; have : s.size = s.data.size := rfl; omega), escL, List.append_nil] at HP
  rw [escS, ← HP]

set_option maxHeartbeats 2000000 in
theorem esc_any (s : ByteArray) (w : World) (hs : s.size ≤ 1000000000) :
    Calls Tryz.prog 127 #[.string s] w fun e w' => e = .returned (.string (escS s)) ∧ Below w.heap.size w w' := by
  go_enter Tryz.func127, Tryz.ntmps127
  go_wp2_with fail
  go_loopw [4, 5, 8] (fun _ _ j wr => ∃ (k : Nat) (pre : List UInt8), k ≤ s.size ∧ j = .int .i64 k ∧ Bld w.heap.size w.heap.size pre wr ∧ Hid (pre ++ escL (s.data.toList.drop k) = escL s.data.toList) ∧ pre.length ≤ 3 * k ∧ Below w.heap.size w wr) (fun _ _ i _ => s.size - (intOf i).toNat)
  case atStart => exact ⟨0, [], Nat.zero_le _, rfl, Bld.fresh w, Lib.hid rfl, Nat.zero_le _, (Below.refl _ _).alloc (Nat.le_refl _) _⟩
  case round =>
    obtain ⟨k, pre, hk, rfl, hB, HP, hpl, hbr⟩ := hrel
    by_cases hlt : k < s.size
    · cases hp : plainB s[k] with
      | true =>
        have HQ := Lib.hid hp
        go_wp2_with fail
        refine (cplain_any s[k] wr).mono ?_
        rintro e w1 ⟨rfl, rfl⟩
        rw [hp]
        clear hp
        go_wp2_with fail
        refine (writeByte_any _ _ pre _ _ hB (by omega) hbr.size).mono ?_
        rintro e w1 ⟨rfl, hB1, hb1⟩
        go_wp2_with fail
        go_roundw
        case rel => exact ⟨k + 1, pre ++ [s[k]], by omega, by go_num, hB1, Lib.hid (esc_step1 hlt HQ.out HP.out), by simp; omega, hbr.trans hb1⟩
        case measure => simp [intOf]; omega
      | false =>
        have HQ := Lib.hid hp
        obtain ⟨c, hc⟩ : ∃ c, s[k].toNat = c := ⟨_, rfl⟩
        have HC := Lib.hid hc
        have hcl : c < 256 := hc ▸ s[k].toNat_lt
        obtain ⟨a, HA⟩ : ∃ a, Hid (c / 16 = a) := ⟨_, Lib.hid rfl⟩
        have hal : a < 16 := by have := HA.out; omega
        have ea : (c : Int) / 16 = (a : Int) := by have := HA.out; omega
        obtain ⟨b, HB⟩ : ∃ b, Hid (c % 16 = b) := ⟨_, Lib.hid rfl⟩
        have hbl : b < 16 := by have := HB.out; omega
        have eb : bits BinOp.and IntKind.u8 (c : Int) 15 = (b : Int) := by rw [u8_and15 _ (by omega) (by omega)]; have := HB.out; omega
        have hcp := cplain_any s[k] wr
        rw [hc, hp] at hcp
        clear hp
        go_wp2_with fail
        refine hcp.mono ?_
        rintro e w1 ⟨rfl, rfl⟩
        go_wp2_with fail
        refine (writeByte_any _ _ pre 37 _ hB (by omega) hbr.size).mono ?_
        rintro e w1 ⟨rfl, hB1, hb1⟩
        have hbr1 := hbr.trans hb1
        have eA := hex_lit a hal
        have eB := hex_lit b hbl
        go_wp2_with fail
        refine (writeByte_any _ _ _ _ _ hB1 (by simp; omega) hbr1.size).mono ?_
        rintro e w2 ⟨rfl, hB2, hb2⟩
        have hbr2 := hbr1.trans hb2
        go_wp2_with fail
        refine (writeByte_any _ _ _ _ _ hB2 (by simp; omega) hbr2.size).mono ?_
        rintro e w3 ⟨rfl, hB3, hb3⟩
        go_wp2_with fail
        have hP := esc_step3 hlt HQ.out HC.out HA.out HB.out HP.out
        go_roundw
        case rel => exact ⟨k + 1, _, by omega, by go_num, hB3, Lib.hid hP, by simp; omega, hbr2.trans hb3⟩
        case measure => simp [intOf]; omega
    · go_wp2_with fail
      refine (bldString_any _ _ pre _ hB hbr.size).mono ?_
      rintro e w1 ⟨rfl, hb1⟩
      go_wp2_with fail
      go_ret
      exact ⟨ret_str (esc_end hlt HP.out), hbr.trans hb1⟩

theorem quiet_eq {P : Program} {f : FuncId} {args : Array Value} {w : World} {n : Nat} {v : Value}
    (h : Calls P f args (w.drewN n) fun e w' => e = .returned v ∧ w.drewN n = w') : Calls P f args (w.drewN n) fun e w'' => e = .returned v ∧ ∃ m, w'' = w.drewN m :=
  h.mono fun _ _ ⟨he, hm⟩ => ⟨he, n, hm.symm⟩
theorem Bld.drewN {B b : Nat} {l : List UInt8} {w : World} (h : Bld B b l w) {n : Nat} : Bld B b l (w.drewN n) := h
theorem un_plain {s : ByteArray} {k : Nat} {pre : List UInt8} {L : Option (List UInt8)} (hk : k < s.size) (hp : plainB s[k] = true) (HP : (unE (s.data.toList.drop k) 0).map (pre ++ ·) = L) :
    (unE (s.data.toList.drop (k + 1)) 0).map ((pre ++ [s[k]]) ++ ·) = L := by
  rw [drop_cons s k hk, unE, if_pos hp, r64_snoc] at HP
  exact HP
theorem un_bad {s : ByteArray} {k : Nat} {pre : List UInt8} {L : Option (List UInt8)} (hk : k < s.size) (hp : plainB s[k] = false) (h37 : s[k].toNat ≠ 37) (HP : (unE (s.data.toList.drop k) 0).map (pre ++ ·) = L) : L = none := by
  rw [drop_cons s k hk, unE, if_neg (by rw [hp]; decide), if_neg (by intro e; rw [e] at h37; exact h37 rfl)] at HP
  rw [← HP]; rfl
theorem u37 {c : UInt8} (h : c.toNat = 37) : c = 37 := UInt8.toNat_inj.1 h
theorem un_short {s : ByteArray} {k : Nat} {pre : List UInt8} {L : Option (List UInt8)} (hk : k < s.size) (h37 : s[k].toNat = 37) (hs : ¬ k + 2 < s.size) (HP : (unE (s.data.toList.drop k) 0).map (pre ++ ·) = L) : L = none := by
  rw [drop_cons s k hk, u37 h37, unE, if_neg (by decide), if_pos rfl] at HP
  rw [← HP]
  by_cases h1 : k + 1 < s.size
  · rw [drop_cons s (k + 1) h1, unE, List.drop_of_length_le (by simp; have : s.size = s.data.size := rfl; omega)]
    cases hexV s[k + 1] <;> rfl
  · rw [List.drop_of_length_le (by simp; have : s.size = s.data.size := rfl; omega)]; rfl
theorem un_hex {s : ByteArray} {k : Nat} {pre : List UInt8} {L : Option (List UInt8)} (hs : k + 2 < s.size) (h37 : s[k].toNat = 37) (HP : (unE (s.data.toList.drop k) 0).map (pre ++ ·) = L) :
    (((hexV s[k + 1]).bind fun a => (hexV s[k + 2]).bind fun b => if plainB (UInt8.ofNat (a * 16 + b)) then none else (unE (s.data.toList.drop (k + 3)) 0).map (UInt8.ofNat (a * 16 + b) :: ·)).map (pre ++ ·)) = L := by
  rw [drop_cons s k (by omega), u37 h37, unE, if_neg (by decide), if_pos rfl, drop_cons s (k + 1) (by omega), unE, drop_cons s (k + 2) hs] at HP
  rw [← HP]
  cases hexV s[k + 1] with
  | none => rfl
  | some a => rw [Option.bind_some, Option.bind_some, unE]
theorem un_end {s : ByteArray} {k : Nat} {pre : List UInt8} (hk : ¬ k < s.size) (HP : (unE (s.data.toList.drop k) 0).map (pre ++ ·) = unE s.data.toList 0) : unescO s = some ⟨pre.toArray⟩ := by
  rw [List.drop_of_length_le (by simp; have : s.size = s.data.size := rfl; omega), unE] at HP
  rw [unescO, ← HP]; simp
theorem un_none {s : ByteArray} (h : unE s.data.toList 0 = none) : unescS s = ⟨#[]⟩ ∧ unescE s = 4 := by
  simp [unescS, unescE, unescO, h]; rfl
theorem un_some {s t : ByteArray} (h : unescO s = some t) : unescS s = t ∧ unescE s = 0 := by
  simp [unescS, unescE, h]

set_option maxHeartbeats 4000000 in
theorem unesc_any (s : ByteArray) (w : World) (hs : s.size ≤ 1000000000) :
    Calls Tryz.prog 120 #[.string s] w fun e w' => e = .returned (.tuple #[.string (unescS s), .int .i64 (unescE s)]) ∧ Below w.heap.size w w' := by
  go_enter Tryz.func120, Tryz.ntmps120
  go_wp2_with fail
  go_loopw [5, 6, 7] (fun j _ _ wr => ∃ (k : Nat) (pre : List UInt8), k ≤ s.size ∧ j = .int .i64 k ∧ Bld w.heap.size w.heap.size pre wr ∧ Hid ((unE (s.data.toList.drop k) 0).map (pre ++ ·) = unE s.data.toList 0) ∧ pre.length ≤ k ∧ Below w.heap.size w wr) (fun i _ _ _ => s.size - (intOf i).toNat)
  case atStart => exact ⟨0, [], Nat.zero_le _, rfl, Bld.fresh w, Lib.hid (by simp), Nat.zero_le _, (Below.refl _ _).alloc (Nat.le_refl _) _⟩
  case round =>
    obtain ⟨k, pre, hk, rfl, hB, HP, hpl, hbr⟩ := hrel
    by_cases hlt : k < s.size
    · cases hp : plainB s[k] with
      | true =>
        have HQ := Lib.hid hp
        go_wp2_with fail
        refine (cplain_any s[k] wr).mono ?_
        rintro e w1 ⟨rfl, rfl⟩
        rw [hp]
        clear hp
        go_wp2_with fail
        refine (writeByte_any _ _ pre _ _ hB (by omega) hbr.size).mono ?_
        rintro e w1 ⟨rfl, hB1, hb1⟩
        go_wp2_with fail
        go_roundw
        case rel => exact ⟨k + 1, pre ++ [s[k]], by omega, by go_num, hB1, Lib.hid (un_plain hlt HQ.out HP.out), by simp; omega, hbr.trans hb1⟩
        case measure => simp [intOf]; omega
      | false =>
        have HQ := Lib.hid hp
        by_cases h37 : s[k].toNat = 37
        · have hcp := cplain_any s[k] wr
          have H37 := Lib.hid h37
          rw [h37, hp] at hcp
          clear hp
          by_cases h2 : k + 2 < s.size
          · have HX := un_hex h2 H37.out HP.out
            have hw1 : IntKind.i64.wrap ((k : Int) + 1) = (k : Int) + 1 := IntWalk.i64_in _ (by omega)
            have hb1a : (0 : Int) ≤ (k : Int) + 1 := by omega
            have hb1b : (k : Int) + 1 < (s.size : Int) := by omega
            have hb2a : (0 : Int) ≤ (k : Int) + 2 := by omega
            have hb2b : (k : Int) + 2 < (s.size : Int) := by omega
            have hw2 : IntKind.i64.wrap ((k : Int) + 2) = (k : Int) + 2 := IntWalk.i64_in _ (by omega)
            cases h1 : hexV s[k + 1] with
            | none =>
              rw [h1, Option.bind_none, Option.map_none] at HX
              have hN := Lib.hid (un_none HX.symm)
              have H1 := Lib.hid h1
              clear h1 HX
              obtain ⟨z, hz⟩ : ∃ z, Lib.indexByte hexTab.data.toList s[k + 2] = z := ⟨_, rfl⟩
              have HZ := Lib.hid hz
              clear hz
              go_wp2_with fail
              refine hcp.mono ?_
              rintro e w1 ⟨rfl, rfl⟩
              go_wp2_with fail
              go_quiet (first | (exact quiet_eq (index_hex_none _ _ H1.out)) | (exact quiet_eq (index_hex_at _ _ _ HZ.out)))
              go_wp2_with fail
              go_ret2
              exact ⟨ret_se hN.out.1.symm hN.out.2.symm, below_drewN hbr _⟩
            | some a =>
              rw [h1, Option.bind_some] at HX
              have H1 := Lib.hid h1
              have hal := hexV_lt h1
              clear h1
              cases hv2 : hexV s[k + 2] with
              | none =>
                rw [hv2, Option.bind_none, Option.map_none] at HX
                have hN := Lib.hid (un_none HX.symm)
                have H2 := Lib.hid hv2
                clear hv2 HX
                go_wp2_with fail
                refine hcp.mono ?_
                rintro e w1 ⟨rfl, rfl⟩
                go_wp2_with fail
                go_quiet (first | (exact quiet_eq (index_hex_some _ _ _ H1.out)) | (exact quiet_eq (index_hex_none _ _ H2.out)))
                go_wp2_with fail
                go_ret2
                exact ⟨ret_se hN.out.1.symm hN.out.2.symm, below_drewN hbr _⟩
              | some b =>
                rw [hv2, Option.bind_some] at HX
                have H2 := Lib.hid hv2
                have hbl := hexV_lt hv2
                clear hv2
                obtain ⟨z, HZ⟩ : ∃ z, Hid (a * 16 + b = z) := ⟨_, Lib.hid rfl⟩
                have hz0 : 0 ≤ (z : Int) := by omega
                have eor : bits BinOp.or IntKind.i64 ((a : Int) * 16) (b : Int) = (z : Int) := by rw [or_four a b (by omega) (by omega) (by omega) (by omega)]; have := HZ.out; omega
                obtain ⟨q, HQq⟩ : ∃ q, Hid (UInt8.ofNat (a * 16 + b) = q) := ⟨_, Lib.hid rfl⟩
                have eb : IntKind.u8.wrap (z : Int) = (q.toNat : Int) := by rw [wrap_u8, ← HQq.out, HZ.out]
                rw [HQq.out] at HX
                cases hq : plainB q with
                | true =>
                  rw [hq, if_pos rfl, Option.map_none] at HX
                  have hN := Lib.hid (un_none HX.symm)
                  clear HX
                  go_wp2_with fail
                  refine hcp.mono ?_
                  rintro e w1 ⟨rfl, rfl⟩
                  go_wp2_with fail
                  go_quiet (first | (exact quiet_eq (index_hex_some _ _ _ H1.out)) | (exact quiet_eq (index_hex_some _ _ _ H2.out)))
                  go_wp2_with fail
                  refine (cplain_any q _).mono ?_
                  rintro e w1 ⟨rfl, rfl⟩
                  rw [hq]
                  clear hq
                  go_wp2_with fail
                  go_ret2
                  exact ⟨ret_se hN.out.1.symm hN.out.2.symm, below_drewN hbr _⟩
                | false =>
                  rw [hq, if_neg (by decide), r64_snoc] at HX
                  have HP1 := Lib.hid HX
                  clear HX
                  go_wp2_with fail
                  refine hcp.mono ?_
                  rintro e w1 ⟨rfl, rfl⟩
                  go_wp2_with fail
                  go_quiet (first | (exact quiet_eq (index_hex_some _ _ _ H1.out)) | (exact quiet_eq (index_hex_some _ _ _ H2.out)))
                  go_wp2_with fail
                  refine (cplain_any q _).mono ?_
                  rintro e w1 ⟨rfl, rfl⟩
                  rw [hq]
                  clear hq
                  go_wp2_with fail
                  have hBq : Bld w.heap.size w.heap.size pre (wr.drewN nq) := Bld.drewN hB
                  have hbq := below_drewN hbr nq
                  refine (writeByte_any _ _ pre _ _ hBq (by omega) hbq.size).mono ?_
                  rintro e w1 ⟨rfl, hB1, hb1⟩
                  go_wp2_with fail
                  go_roundw
                  case rel => exact ⟨k + 3, pre ++ [q], by omega, by go_num, hB1, HP1, by simp; omega, hbq.trans hb1⟩
                  case measure => simp [intOf]; omega
          · have hN := Lib.hid (un_none (un_short hlt H37.out h2 HP.out))
            go_wp2_with fail
            refine hcp.mono ?_
            rintro e w1 ⟨rfl, rfl⟩
            go_wp2_with fail
            go_ret2
            exact ⟨ret_se hN.out.1.symm hN.out.2.symm, hbr⟩
        · have hN := Lib.hid (un_none (un_bad hlt hp h37 HP.out))
          go_wp2_with fail
          refine (cplain_any s[k] wr).mono ?_
          rintro e w1 ⟨rfl, rfl⟩
          rw [hp]
          clear hp
          go_wp2_with fail
          go_ret2
          exact ⟨ret_se hN.out.1.symm hN.out.2.symm, hbr⟩
    · have hS := Lib.hid (un_some (un_end hlt HP.out))
      go_wp2_with fail
      refine (bldString_any _ _ pre _ hB hbr.size).mono ?_
      rintro e w1 ⟨rfl, hb1⟩
      go_wp2_with fail
      go_ret2
      exact ⟨ret_se hS.out.1.symm hS.out.2.symm, hbr.trans hb1⟩
end Go.Proofs.YtiiioefjdebggaaGreatDoor

