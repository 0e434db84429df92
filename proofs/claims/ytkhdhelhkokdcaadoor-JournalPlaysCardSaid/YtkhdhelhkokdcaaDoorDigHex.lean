/- digest.Hex and identityref03.Hex compute hexS. -/
import Derived.Test.YtkhdhelhkokdcaaDoorProg
import Derived.Test.YtkhdhelhkokdcaaDoorDigPlain
import Derived.Test.YtkhdhelhkokdcaaDoorKit
import Derived.WalkKit
import Derived.Lib.Hide
import Derived.WalkSpells
import Derived.WalkLawsBesides
namespace Go.Proofs.YtkhdhelhkokdcaaDoor
open Go.RowKit

set_option maxHeartbeats 400000 in
theorem rhex_any (n : Int) (w : World) (h0 : 0 ≤ n) (h1 : n < 18446744073709551616) :
    Calls Tryd.prog 48 #[.int .u64 n] w fun e w' => e = .returned (.string (hexS n)) ∧ w = w' := by
  have H1 := Lib.hid h1
  clear h1
  go_enter Tryd.func48, Tryd.ntmps48
  go_wp2
  go_loop [0, 3, 4, 5] (fun m s j d => ∃ k : Nat, ∃ z : Int, ∃ t : ByteArray, 0 ≤ z ∧ t.size ≤ 16 ∧ k ≤ 16 ∧ HexAt n k z t ∧ j = .int .i64 k ∧ m = .int .u64 z ∧ s = .string t) (fun _ _ i _ => 16 - (intOf i).toNat)
  case atStart => exact ⟨0, _, _, h0, by decide, by omega, HexAt.zero n, rfl, rfl, rfl⟩
  case round =>
    obtain ⟨k, z, t, hz, ht, hk, hat, rfl, rfl, rfl⟩ := hrel
    by_cases hlt : k < 16
    · have hs1 := Lib.hid (hat.step hlt h0 H1.out)
      clear hat
      go_wp2
      go_round
      case rel => exact ⟨k + 1, _, _, hs1.out.1, hs1.out.2.1, by omega, hs1.out.2.2, by go_num, rfl, rfl⟩
      case measure => simp [intOf]; omega
    · have hs := Lib.hid (hat.done hk hlt)
      go_wp2
      go_ret
      exact ⟨congrArg (fun t => Ending.returned (.string t)) hs.out, rfl⟩

/-- The package's table of digits, as its block holds it. -/
def digCells : Array Value := #[.int .u8 48, .int .u8 49, .int .u8 50, .int .u8 51, .int .u8 52, .int .u8 53, .int .u8 54, .int .u8 55, .int .u8 56, .int .u8 57, .int .u8 97, .int .u8 98, .int .u8 99, .int .u8 100, .int .u8 101, .int .u8 102]
/-- The package's table of digits is laid. -/
def DigOk (w : World) : Prop := ∃ t fr, w.heap[0]? = some (.cells digCells t fr)
theorem DigOk.lt {w : World} (h : DigOk w) : 0 < w.heap.size := by
  obtain ⟨t, fr, h⟩ := h
  exact (Array.getElem?_eq_some_iff.1 h).1
theorem DigOk.below {w w' : World} (h : DigOk w) (hb : Below w.heap.size w w') : DigOk w' := by
  have hl := h.lt
  obtain ⟨t, fr, h⟩ := h
  exact ⟨t, fr, (hb.block _ hl).trans h⟩
theorem DigOk.drew {w : World} (h : DigOk w) : DigOk w.drew := h
theorem digCells_at (k : Nat) (h : k < 16) : digCells[k]? = some (.int .u8 ((hexDig k).toNat : Int)) := by
  rcases k with _|_|_|_|_|_|_|_|_|_|_|_|_|_|_|_|k <;> first | omega | rfl
theorem DigOk.cells {w : World} (h : DigOk w) : 0 < w.heap.size ∧ ∀ k : Nat, k < 16 → w.cell? ⟨0, k, none⟩ = some (.int .u8 ((hexDig k).toNat : Int)) := by
  refine ⟨h.lt, fun k hk => ?_⟩
  obtain ⟨t, fr, h⟩ := h
  unfold World.cell?
  simp [h, digCells_at k hk]
theorem hexS_lit (n : Int) : hexS n = ⟨#[hexDig (n / 1152921504606846976 % 16).toNat, hexDig (n / 72057594037927936 % 16).toNat, hexDig (n / 4503599627370496 % 16).toNat, hexDig (n / 281474976710656 % 16).toNat, hexDig (n / 17592186044416 % 16).toNat, hexDig (n / 1099511627776 % 16).toNat, hexDig (n / 68719476736 % 16).toNat, hexDig (n / 4294967296 % 16).toNat, hexDig (n / 268435456 % 16).toNat, hexDig (n / 16777216 % 16).toNat, hexDig (n / 1048576 % 16).toNat, hexDig (n / 65536 % 16).toNat, hexDig (n / 4096 % 16).toNat, hexDig (n / 256 % 16).toNat, hexDig (n / 16 % 16).toNat, hexDig (n % 16).toNat]⟩ := by
  simp [hexS, hexTail]
/-- The conversion of the array's 16 bytes to a string. -/
theorem conv16 (w : World) (b0 b1 b2 b3 b4 b5 b6 b7 b8 b9 b10 b11 b12 b13 b14 b15 : UInt8) : (convert 46 9 (.slice (some ⟨w.heap.size, 0, none⟩) 16 16)).run Tryd.prog (w.alloc (.cells #[.int .u8 (b0.toNat : Int), .int .u8 (b1.toNat : Int), .int .u8 (b2.toNat : Int), .int .u8 (b3.toNat : Int), .int .u8 (b4.toNat : Int), .int .u8 (b5.toNat : Int), .int .u8 (b6.toNat : Int), .int .u8 (b7.toNat : Int), .int .u8 (b8.toNat : Int), .int .u8 (b9.toNat : Int), .int .u8 (b10.toNat : Int), .int .u8 (b11.toNat : Int), .int .u8 (b12.toNat : Int), .int .u8 (b13.toNat : Int), .int .u8 (b14.toNat : Int), .int .u8 (b15.toNat : Int)] 78)) =
    .ok (.string ⟨#[b0, b1, b2, b3, b4, b5, b6, b7, b8, b9, b10, b11, b12, b13, b14, b15]⟩) (w.alloc (.cells #[.int .u8 (b0.toNat : Int), .int .u8 (b1.toNat : Int), .int .u8 (b2.toNat : Int), .int .u8 (b3.toNat : Int), .int .u8 (b4.toNat : Int), .int .u8 (b5.toNat : Int), .int .u8 (b6.toNat : Int), .int .u8 (b7.toNat : Int), .int .u8 (b8.toNat : Int), .int .u8 (b9.toNat : Int), .int .u8 (b10.toNat : Int), .int .u8 (b11.toNat : Int), .int .u8 (b12.toNat : Int), .int .u8 (b13.toNat : Int), .int .u8 (b14.toNat : Int), .int .u8 (b15.toNat : Int)] 78)) := by
  refine run_convert_bytes_back (P := Tryd.prog) _ _ _ 5 ⟨w.heap.size, 0, none⟩ 16 [b0, b1, b2, b3, b4, b5, b6, b7, b8, b9, b10, b11, b12, b13, b14, b15] Tryd.underlying46 Tryd.underlying5 Tryd.underlying9 ?_
  intro j hj
  have : ∀ j : Nat, j < 16 → (w.alloc (.cells #[.int .u8 (b0.toNat : Int), .int .u8 (b1.toNat : Int), .int .u8 (b2.toNat : Int), .int .u8 (b3.toNat : Int), .int .u8 (b4.toNat : Int), .int .u8 (b5.toNat : Int), .int .u8 (b6.toNat : Int), .int .u8 (b7.toNat : Int), .int .u8 (b8.toNat : Int), .int .u8 (b9.toNat : Int), .int .u8 (b10.toNat : Int), .int .u8 (b11.toNat : Int), .int .u8 (b12.toNat : Int), .int .u8 (b13.toNat : Int), .int .u8 (b14.toNat : Int), .int .u8 (b15.toNat : Int)] 78)).cell? ⟨w.heap.size, j, none⟩ = some (.int .u8 ((([b0, b1, b2, b3, b4, b5, b6, b7, b8, b9, b10, b11, b12, b13, b14, b15] : List UInt8).getD j 0).toNat : Int)) := by
    intro j hj
    rcases j with _|_|_|_|_|_|_|_|_|_|_|_|_|_|_|_|j <;> first | omega | simp [go_sem]
  have h := this j (by simpa using hj)
  rw [List.getD_eq_getElem?_getD, List.getElem?_eq_getElem hj, Option.getD_some] at h
  rw [addr_add]
  exact h

set_option maxHeartbeats 1000000 in
theorem hex_any (n : Int) (w : World) (hd : DigOk w) :
    Calls Tryd.prog 42 #[.int .u64 n] w fun e w' => e = .returned (.string (hexS n)) ∧ Below w.heap.size w w' := by
  obtain ⟨hg, hc⟩ := hd.cells
  have a15 := and15
  have e16 := Lib.hid (hexS_lit n)
  have cv := conv16 w
  have q0 : 0 ≤ n % 16 := by omega
  have r0 : n % 16 < 16 := by omega
  have c0 := hc (n % 16).toNat (by omega)
  have q1 : 0 ≤ n / 16 % 16 := by omega
  have r1 : n / 16 % 16 < 16 := by omega
  have c1 := hc (n / 16 % 16).toNat (by omega)
  have q2 : 0 ≤ n / 256 % 16 := by omega
  have r2 : n / 256 % 16 < 16 := by omega
  have c2 := hc (n / 256 % 16).toNat (by omega)
  have q3 : 0 ≤ n / 4096 % 16 := by omega
  have r3 : n / 4096 % 16 < 16 := by omega
  have c3 := hc (n / 4096 % 16).toNat (by omega)
  have q4 : 0 ≤ n / 65536 % 16 := by omega
  have r4 : n / 65536 % 16 < 16 := by omega
  have c4 := hc (n / 65536 % 16).toNat (by omega)
  have q5 : 0 ≤ n / 1048576 % 16 := by omega
  have r5 : n / 1048576 % 16 < 16 := by omega
  have c5 := hc (n / 1048576 % 16).toNat (by omega)
  have q6 : 0 ≤ n / 16777216 % 16 := by omega
  have r6 : n / 16777216 % 16 < 16 := by omega
  have c6 := hc (n / 16777216 % 16).toNat (by omega)
  have q7 : 0 ≤ n / 268435456 % 16 := by omega
  have r7 : n / 268435456 % 16 < 16 := by omega
  have c7 := hc (n / 268435456 % 16).toNat (by omega)
  have q8 : 0 ≤ n / 4294967296 % 16 := by omega
  have r8 : n / 4294967296 % 16 < 16 := by omega
  have c8 := hc (n / 4294967296 % 16).toNat (by omega)
  have q9 : 0 ≤ n / 68719476736 % 16 := by omega
  have r9 : n / 68719476736 % 16 < 16 := by omega
  have c9 := hc (n / 68719476736 % 16).toNat (by omega)
  have q10 : 0 ≤ n / 1099511627776 % 16 := by omega
  have r10 : n / 1099511627776 % 16 < 16 := by omega
  have c10 := hc (n / 1099511627776 % 16).toNat (by omega)
  have q11 : 0 ≤ n / 17592186044416 % 16 := by omega
  have r11 : n / 17592186044416 % 16 < 16 := by omega
  have c11 := hc (n / 17592186044416 % 16).toNat (by omega)
  have q12 : 0 ≤ n / 281474976710656 % 16 := by omega
  have r12 : n / 281474976710656 % 16 < 16 := by omega
  have c12 := hc (n / 281474976710656 % 16).toNat (by omega)
  have q13 : 0 ≤ n / 4503599627370496 % 16 := by omega
  have r13 : n / 4503599627370496 % 16 < 16 := by omega
  have c13 := hc (n / 4503599627370496 % 16).toNat (by omega)
  have q14 : 0 ≤ n / 72057594037927936 % 16 := by omega
  have r14 : n / 72057594037927936 % 16 < 16 := by omega
  have c14 := hc (n / 72057594037927936 % 16).toNat (by omega)
  have q15 : 0 ≤ n / 1152921504606846976 % 16 := by omega
  have r15 : n / 1152921504606846976 % 16 < 16 := by omega
  have c15 := hc (n / 1152921504606846976 % 16).toNat (by omega)
  clear hc
  go_enter Tryd.func42, Tryd.ntmps42
  go_wp2
  refine wp_loop_rounds 17 ?_
  rw [rounds_succ]
  go_wp2
  clear c0 q0 r0
  rw [rounds_succ]
  go_wp2
  clear c1 q1 r1
  rw [rounds_succ]
  go_wp2
  clear c2 q2 r2
  rw [rounds_succ]
  go_wp2
  clear c3 q3 r3
  rw [rounds_succ]
  go_wp2
  clear c4 q4 r4
  rw [rounds_succ]
  go_wp2
  clear c5 q5 r5
  rw [rounds_succ]
  go_wp2
  clear c6 q6 r6
  rw [rounds_succ]
  go_wp2
  clear c7 q7 r7
  rw [rounds_succ]
  go_wp2
  clear c8 q8 r8
  rw [rounds_succ]
  go_wp2
  clear c9 q9 r9
  rw [rounds_succ]
  go_wp2
  clear c10 q10 r10
  rw [rounds_succ]
  go_wp2
  clear c11 q11 r11
  rw [rounds_succ]
  go_wp2
  clear c12 q12 r12
  rw [rounds_succ]
  go_wp2
  clear c13 q13 r13
  rw [rounds_succ]
  go_wp2
  clear c14 q14 r14
  rw [rounds_succ]
  go_wp2
  clear c15 q15 r15
  rw [rounds_succ]
  go_wp2
  go_ret
  exact ⟨congrArg (fun t => Ending.returned (.string t)) e16.out.symm, (Below.refl _ _).alloc (Nat.le_refl _) _⟩
end Go.Proofs.YtkhdhelhkokdcaaDoor
