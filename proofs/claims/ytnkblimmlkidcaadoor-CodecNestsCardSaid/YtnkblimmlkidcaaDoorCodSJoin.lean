/- strings.Join with a separator of one byte. -/
import Derived.Test.YtnkblimmlkidcaaDoorCodJoinP
import Derived.Test.YtnkblimmlkidcaaDoorStrs
import Derived.Test.YtnkblimmlkidcaaDoorBuilder
namespace Go.Proofs.YtnkblimmlkidcaaDoor
open Go.RowKit

theorem div_big (n : Nat) (h : n ≤ 1000000) (h2 : 2 ≤ n) : ¬ 9223372036854775807 / ((n : Int) - 1) ≤ 1 := by
  have h1 : 0 < (n : Int) - 1 := by omega
  have : 2 ≤ 9223372036854775807 / ((n : Int) - 1) := (Int.le_ediv_iff_mul_le h1).2 (by omega)
  omega
set_option maxHeartbeats 2000000 in
set_option maxRecDepth 100000 in
theorem sjoin_any (l : List ByteArray) (c : UInt8) (A : Option Addr) (cap : Nat) (w : World) (hS : Strs w A l) (hl : l.length ≤ 1000000) (hcap : l.length ≤ cap) (hz : ∀ s ∈ l, s.size ≤ 1000000) :
    Calls Tryd.prog 43 #[.slice A l.length cap, .string ⟨#[c]⟩] w fun e w' => e = .returned (.string (joinC c l)) ∧ Below w.heap.size w w' := by
  go_enter Tryd.func43, Tryd.ntmps43
  by_cases h0 : l.length = 0
  · have he : l = [] := List.eq_nil_of_length_eq_zero h0
    subst he
    have HJ := Lib.hid (joinC_nil c)
    go_wp2_with fail
    go_ret
    exact ⟨ret_str HJ.out.symm, Below.refl _ _⟩
  · by_cases h1 : l.length = 1
    · have hlt : 0 < l.length := by omega
      obtain ⟨b, o, rfl, hcell⟩ := hS 0 hlt
      have hc0 : w.cell? ⟨b, o, none⟩ = some (.string l[0]) := by simpa using hcell
      have HJ : Hid (joinC c l = l[0]) := by
        show _ = _
        match l, h1 with
        | [s], _ => exact joinC_one c s
      have hb0 : ((l.length : Int) == 0) = false := by rw [beq_eq_false_iff_ne]; omega
      have hb1 : ((l.length : Int) == 1) = true := by rw [beq_iff_eq]; omega
      clear hcell h0 h1
      go_wp2_with fail
      go_ret
      exact ⟨ret_str HJ.out.symm, Below.refl _ _⟩
    · have hb0 : ((l.length : Int) == 0) = false := by rw [beq_eq_false_iff_ne]; omega
      have hb1 : ((l.length : Int) == 1) = false := by rw [beq_eq_false_iff_ne]; omega
      have hn2 : 2 ≤ l.length := by omega
      have hdv := div_big l.length hl hn2
      clear h0 h1
      go_wp2_with fail
      go_loop [5, 7, 41] (fun n _ j => ∃ k m : Nat, k ≤ l.length ∧ j = .int .i64 k ∧ n = .int .i64 m ∧ m ≤ 1000000 + k * 1000000) (fun _ _ i => l.length - (intOf i).toNat)
      case atStart => exact ⟨0, l.length - 1, Nat.zero_le _, rfl, by rw [Int.ofNat_sub (by omega)]; rfl, by omega⟩
      case round =>
        obtain ⟨k, m, hk, rfl, rfl, hm⟩ := hrel
        by_cases hlt : k < l.length
        · obtain ⟨b, o, rfl, hcell⟩ := hS k hlt
          have hsz : l[k].size ≤ 1000000 := hz _ (List.getElem_mem hlt)
          go_wp2_with fail
          go_round
          case rel => exact ⟨k + 1, m + l[k].size, hlt, by go_num, by go_num, by omega⟩
          case measure => simp [intOf]; omega
        · have hm2 : m ≤ 281474976710656 := by omega
          obtain ⟨b, o, rfl, hcell⟩ := hS 0 (by omega)
          have hlt0 : 0 < l.length := by omega
          have hsz : l[0].size ≤ 1000000 := hz _ (List.getElem_mem hlt0)
          have hc0 : w.cell? ⟨b, o, none⟩ = some (.string l[0]) := by simpa using hcell
          have hB0 : (w.alloc (.cells #[.pointer none, .slice none 0 0] 52)).heap[w.heap.size]? = some (.cells #[.pointer none, .slice none 0 0] 52 (0, 0)) := heap_alloc_new w _
          have hbw : Below w.heap.size w (w.alloc (.cells #[.pointer none, .slice none 0 0] 52)) := (Below.refl _ _).alloc (Nat.le_refl _) _
          clear hcell hk hm
          go_wp2_with fail
          refine (Tryd.Builder_Grow_fresh w.heap.size w.heap.size m _ (Nat.le_refl _) hB0 hbw.size hm2).mono ?_
          rintro e w1 ⟨rfl, hB1, hb1⟩
          have hbr1 := hbw.trans hb1
          have hc1 : w1.cell? ⟨b, o, none⟩ = some (.string l[0]) := by rw [(bcell hbr1).1 b o (World.block_lt_of_cell? w _ hc0)]; exact hc0
          go_wp2_with fail
          refine (writeString_any _ _ [] l[0] _ (.inr hB1) (by simp; omega) hbr1.size).mono ?_
          rintro e w2 ⟨rfl, hB2, hb2⟩
          have hbr2 := hbr1.trans hb2
          have hB2' : Bld w.heap.size w.heap.size (joinC c (l.take 1)).data.toList w2 := by
            rw [take_one l hlt0, joinC_one]; exact hB2
          clear hB2 hB1 hc1
          go_wp2_with fail
          go_loopw [10, 65] (fun _ j wr => ∃ k : Nat, k + 1 ≤ l.length ∧ j = .int .i64 k ∧ Bld w.heap.size w.heap.size (joinC c (l.take (k + 1))).data.toList wr ∧ Below w.heap.size w wr) (fun _ i _ => l.length - (intOf i).toNat)
          case atStart => exact ⟨0, hlt0, rfl, hB2', hbr2⟩
          case round =>
            obtain ⟨k, hk, rfl, hB3, hbr⟩ := hrel
            have hjs := joinC_size c l 1000000 hz (k + 1) hk
            have hj2 : (joinC c (l.take (k + 1))).size ≤ 1000001000000 := by
              refine Nat.le_trans hjs ?_
              have : (k + 1) * 1000001 ≤ 1000000 * 1000001 := Nat.mul_le_mul_right _ (by omega)
              omega
            have hj3 : (joinC c (l.take (k + 1))).data.toList.length ≤ 1000001000000 := by
              have : (joinC c (l.take (k + 1))).data.toList.length = (joinC c (l.take (k + 1))).size := by simp
              omega
            clear hjs hj2
            by_cases hlt : k + 1 < l.length
            · have HJ := Lib.hid (joinC_snoc c l (k + 1) (by omega) hlt)
              have hsz1 : l[k + 1].size ≤ 1000000 := hz _ (List.getElem_mem hlt)
              have hck : wr.cell? ⟨b, o + 1 + k, none⟩ = some (.string l[k + 1]) := by
                obtain ⟨b', o', e, hck⟩ := (hS.below hbr) (k + 1) hlt
                injection e with e; injection e with e1 e2; subst e1; subst e2
                rw [show o + 1 + k = o + (k + 1) by omega]; exact hck
              have hlt' : (k : Int) < (l.length : Int) - 1 := by omega
              go_wp2_with fail
              refine (writeString_any _ _ _ _ _ hB3 (by have : (⟨#[c]⟩ : ByteArray).size = 1 := rfl; omega) hbr.size).mono ?_
              rintro e w3 ⟨rfl, hB4, hb4⟩
              have hbr4 := hbr.trans hb4
              go_wp2_with fail
              refine (writeString_any _ _ _ _ _ hB4 (by rw [List.length_append]; simp only [List.length_cons, List.length_nil]; omega) hbr4.size).mono ?_
              rintro e w4 ⟨rfl, hB5, hb5⟩
              go_wp2_with fail
              go_roundw
              case rel =>
                refine ⟨k + 1, hlt, by go_num, ?_, hbr4.trans hb5⟩
                rw [HJ.out]
                simpa using hB5
              case measure => simp [intOf]; omega
            · have HE := Lib.hid (joinC_all c l (k + 1) hlt)
              have hlt' : ¬ (k : Int) < (l.length : Int) - 1 := by omega
              go_wp2_with fail
              refine (bldString_any _ _ _ _ hB3 hbr.size).mono ?_
              rintro e w3 ⟨rfl, hb4⟩
              go_wp2_with fail
              go_ret
              exact ⟨ret_str (by rw [HE.out]), hbr.trans hb4⟩
end Go.Proofs.YtnkblimmlkidcaaDoor
