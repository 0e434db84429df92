/- Joined: CodRef64, CodRefEsc, CodRefUn, CodRefCut, CodJoinP. -/
import Derived.Test.YtiiioefjdebggaaGreatDoorSeg2
import Derived.Laws.OwnMore
import Derived.Laws.IdiomStrings
import Derived.Lib.BufferRead
import Derived.Deep.AppendLies
import Derived.Deep.RegionLaw
import Derived.Deep.RegionHeld3
import Derived.Test.YtiiioefjdebggaaGreatDoorSeg1
/- identityref02.Base64 computes b64S. -/
namespace Go.Proofs.YtiiioefjdebggaaGreatDoor
open Go.RowKit

theorem byteCells_at (l : List UInt8) (j : Nat) (h : j < l.length) : (Lib.byteCells l)[j]? = some (Value.int .u8 (l[j].toNat : Int)) := by
  simp [Lib.byteCells, h]
/-- string(b), b a row of bytes of the call's own. -/
theorem conv_own {w : World} {base n : Nat} {v : Value} {l : List UInt8} (h : w.ownsRow base 5 1 v n (Lib.byteCells l)) :
    (convert 107 9 v).run Tryz.prog w = .ok (.string ⟨l.toArray⟩) w := by
  have hl : l.length = n := by have := h.1; simpa [Lib.byteCells_length] using this
  subst hl
  rcases h.2 with ⟨rfl, h0⟩ | ⟨g, cap, cur, rfl, hg, hh, rest⟩
  · have : l = [] := List.eq_nil_of_length_eq_zero h0
    subst this
    exact Lib.run_convert_nil_bytes w 107 9 5 0 Tryz.underlying107 Tryz.underlying5 Tryz.underlying9
  · refine run_convert_bytes_back w 107 9 5 ⟨g, 0, none⟩ cap l Tryz.underlying107 Tryz.underlying5 Tryz.underlying9 (fun j hj => ?_)
    exact h.cells (g := g) rfl j _ (byteCells_at l j hj)
theorem byteCells_app (l m : List UInt8) : Lib.byteCells l ++ Lib.byteCells m = Lib.byteCells (l ++ m) := by simp [Lib.byteCells]
/-- A letter more. -/
theorem own_snoc {w : World} {base n : Nat} {v : Value} {l : List UInt8} {c : UInt8} (h : w.ownsRow base 5 1 v n (Lib.byteCells l ++ [Value.int .u8 (c.toNat : Int)])) :
    w.ownsRow base 5 1 v n (Lib.byteCells (l ++ [c])) := by
  rw [← byteCells_app]; exact h
theorem tab_lit (d : Nat) (h : d < 64) : (⟨#[65, 66, 67, 68, 69, 70, 71, 72, 73, 74, 75, 76, 77, 78, 79, 80, 81, 82, 83, 84, 85, 86, 87, 88, 89, 90, 97, 98, 99, 100, 101, 102, 103, 104, 105, 106, 107, 108, 109, 110, 111, 112, 113, 114, 115, 116, 117, 118, 119, 120, 121, 122, 48, 49, 50, 51, 52, 53, 54, 55, 56, 57, 45, 95]⟩ : ByteArray)[d]'h = b64Dig d := b64Tab_el d h h
theorem r_three {s : ByteArray} {k a b c d0 d1 d2 d3 : Nat} {pre L : List UInt8} (hk : k + 2 < s.size) (ha : s[k].toNat = a) (hb : s[k + 1].toNat = b) (hc : s[k + 2].toNat = c) (h0 : a / 4 = d0) (h1 : a % 4 * 16 + b / 16 = d1) (h2 : b % 16 * 4 + c / 64 = d2) (h3 : c % 64 = d3) (HP : pre ++ b64E (s.data.toList.drop k) 0 0 = L) :
    (pre ++ [b64Dig d0] ++ [b64Dig d1] ++ [b64Dig d2] ++ [b64Dig d3]) ++ b64E (s.data.toList.drop (k + 3)) 0 0 = L := by
  rw [drop_cons s k (by omega), b64E, drop_cons s (k + 1) (by omega), b64E, drop_cons s (k + 2) hk, b64E, ha, hb, hc, h0, h1, h2, h3] at HP
  · rw [← HP]; simp
  all_goals omega
theorem r_two {s : ByteArray} {k a b d0 d1 d2 : Nat} {pre L : List UInt8} (hk : k + 2 = s.size) (ha : (s[k]'(by omega)).toNat = a) (hb : (s[k + 1]'(by omega)).toNat = b) (h0 : a / 4 = d0) (h1 : a % 4 * 16 + b / 16 = d1) (h2 : b % 16 * 4 = d2) (HP : pre ++ b64E (s.data.toList.drop k) 0 0 = L) :
    (pre ++ [b64Dig d0] ++ [b64Dig d1] ++ [b64Dig d2]) ++ b64E (s.data.toList.drop (k + 3)) 0 0 = L := by
  rw [drop_cons s k (by omega), b64E, drop_cons s (k + 1) (by omega), b64E, List.drop_of_length_le (i := k + 1 + 1) (by simp; have : s.size = s.data.size := rfl; omega), b64E, ha, hb, h0, h1, h2] at HP
  · rw [← HP, List.drop_of_length_le (by simp; have : s.size = s.data.size := rfl; omega), b64E]; simp
  all_goals omega
theorem r_one {s : ByteArray} {k a d0 d1 : Nat} {pre L : List UInt8} (hk : k + 1 = s.size) (ha : (s[k]'(by omega)).toNat = a) (h0 : a / 4 = d0) (h1 : a % 4 * 16 = d1) (HP : pre ++ b64E (s.data.toList.drop k) 0 0 = L) :
    (pre ++ [b64Dig d0] ++ [b64Dig d1]) ++ b64E (s.data.toList.drop (k + 3)) 0 0 = L := by
  rw [drop_cons s k (by omega), b64E, List.drop_of_length_le (i := k + 1) (by simp; have : s.size = s.data.size := rfl; omega), b64E, ha, h0, h1] at HP
  rw [← HP, List.drop_of_length_le (by simp; have : s.size = s.data.size := rfl; omega), b64E]; simp

set_option maxHeartbeats 4000000 in
set_option maxRecDepth 100000 in
theorem rbase64_any (s : ByteArray) (w : World) (hs : s.size ≤ 1000000000) :
    Calls Tryz.prog 47 #[.string s] w fun e w' => e = .returned (.string (b64S s)) ∧ Below w.heap.size w w' := by
  obtain ⟨i0, hi, hz0, hz1, hz2⟩ := info_parts info_byte
  go_enter Tryz.func47, Tryz.ntmps47
  go_wp2_with fail
  go_loopw [3, 4, 5, 6, 7, 8] (fun v i _ _ _ _ wr => ∃ (k : Nat) (pre : List UInt8), k ≤ s.size + 2 ∧ i = .int .i64 k ∧ wr.ownsRow w.heap.size 5 1 v pre.length (Lib.byteCells pre) ∧ Hid (pre ++ b64E (s.data.toList.drop k) 0 0 = b64L s.data.toList) ∧ pre.length ≤ 2 * k ∧ Below w.heap.size w wr) (fun _ i _ _ _ _ _ => s.size + 2 - (intOf i).toNat)
  case atStart => exact ⟨0, [], by omega, rfl, World.ownsRow_nil _ _ _ _, Lib.hid rfl, Nat.zero_le _, Below.refl _ _⟩
  case round =>
    obtain ⟨k, pre, hk, rfl, hown, HP, hpl, hbr⟩ := hrel
    by_cases hlt : k < s.size
    · obtain ⟨a, ha⟩ : ∃ a, s[k].toNat = a := ⟨_, rfl⟩
      have hal : a < 256 := ha ▸ s[k].toNat_lt
      have HAk := Lib.hid ha
      have hcs : k + 1 = s.size ∨ k + 2 = s.size ∨ k + 2 < s.size := by omega
      rcases hcs with h1 | h2 | h3
      · have H1 := Lib.hid h1
        have hn1 : s.size < k + 1 + 1 := by omega
        have hn2 : s.size < k + 2 + 1 := by omega
        clear h1
        obtain ⟨d0, HD0⟩ : ∃ d0, Hid (a / 4 = d0) := ⟨_, Lib.hid rfl⟩
        have hd0 : d0 < 64 := by have := HD0.out; omega
        have ed0 : ((a : Int) * 65536) / 262144 % 64 = (d0 : Int) := by have := HD0.out; omega
        have et0 := tab_lit d0 hd0
        obtain ⟨d1, HD1⟩ : ∃ d1, Hid (a % 4 * 16 = d1) := ⟨_, Lib.hid rfl⟩
        have hd1 : d1 < 64 := by have := HD1.out; omega
        have ed1 : ((a : Int) * 65536) / 4096 % 64 = (d1 : Int) := by have := HD1.out; omega
        have et1 := tab_lit d1 hd1
        go_wp2_with fail
        refine wp_loop_rounds 3 ?_
        rw [rounds_succ]
        go_wp2_with (at_builtin; refine wpList_append_own _ rfl _ _ 107 rfl w.heap.size 5 i0 (.int .u8 0) 1 1 Tryz.underlying107 hi hz0 hz1 hz2 rfl (by decide) _ _ _ rfl (hown.alloc _) ⟨wr.heap.size, 0, none⟩ 1 1 [.int .u8 ((b64Dig d0).toNat : Int)] rfl rfl (cell_one_new _ _ _) (by intro u hu; simp at hu; subst hu; rfl) (by unfold maxLen; simp; omega) (by simp; omega) (by have := hbr.size; simp; omega) ?_; intro v0 w0 ho0 hg0 _)
        have hb0 : Below w.heap.size w w0 := (hbr.alloc (hbr.size) _).grown hg0 (by have := hbr.size; simp; omega) (fun q hq => (hown.lt q hq).1)
        have hw0 := own_snoc ho0
        clear ho0 hg0
        go_wp2_with fail
        rw [rounds_succ]
        go_wp2_with (at_builtin; refine wpList_append_own _ rfl _ _ 107 rfl w.heap.size 5 i0 (.int .u8 0) 1 1 Tryz.underlying107 hi hz0 hz1 hz2 rfl (by decide) _ _ _ rfl (hw0.alloc _) ⟨w0.heap.size, 0, none⟩ 1 1 [.int .u8 ((b64Dig d1).toNat : Int)] rfl rfl (cell_one_new _ _ _) (by intro u hu; simp at hu; subst hu; rfl) (by unfold maxLen; simp; omega) (by simp; omega) (by have := hb0.size; simp; omega) ?_; intro v1 w1 ho1 hg1 _)
        have hb1 : Below w.heap.size w w1 := (hb0.alloc (hb0.size) _).grown hg1 (by have := hb0.size; simp; omega) (fun q hq => (hw0.lt q hq).1)
        have hw1 := own_snoc ho1
        clear ho1 hg1
        go_wp2_with fail
        rw [rounds_succ]
        go_wp2_with fail
        have hP := Lib.hid (r_one H1.out HAk.out HD0.out HD1.out HP.out)
        exact ⟨⟨k + 3, pre ++ [b64Dig d0] ++ [b64Dig d1], by omega, by go_num, by simpa using hw1, hP, by simp; omega, hb1⟩, by simp [intOf]; omega⟩
      · have H1 := Lib.hid h2
        have hn1 : k + 1 < s.size := by omega
        have hn2 : s.size < k + 2 + 1 := by omega
        obtain ⟨b, hb⟩ : ∃ b, s[k + 1].toNat = b := ⟨_, rfl⟩
        have hbl : b < 256 := hb ▸ s[k + 1].toNat_lt
        have HB := Lib.hid hb
        clear h2
        obtain ⟨d0, HD0⟩ : ∃ d0, Hid (a / 4 = d0) := ⟨_, Lib.hid rfl⟩
        have hd0 : d0 < 64 := by have := HD0.out; omega
        have ed0 : ((a : Int) * 65536 + (b : Int) * 256) / 262144 % 64 = (d0 : Int) := by have := HD0.out; omega
        have et0 := tab_lit d0 hd0
        obtain ⟨d1, HD1⟩ : ∃ d1, Hid (a % 4 * 16 + b / 16 = d1) := ⟨_, Lib.hid rfl⟩
        have hd1 : d1 < 64 := by have := HD1.out; omega
        have ed1 : ((a : Int) * 65536 + (b : Int) * 256) / 4096 % 64 = (d1 : Int) := by have := HD1.out; omega
        have et1 := tab_lit d1 hd1
        obtain ⟨d2, HD2⟩ : ∃ d2, Hid (b % 16 * 4 = d2) := ⟨_, Lib.hid rfl⟩
        have hd2 : d2 < 64 := by have := HD2.out; omega
        have ed2 : ((a : Int) * 65536 + (b : Int) * 256) / 64 % 64 = (d2 : Int) := by have := HD2.out; omega
        have et2 := tab_lit d2 hd2
        go_wp2_with fail
        refine wp_loop_rounds 4 ?_
        rw [rounds_succ]
        go_wp2_with (at_builtin; refine wpList_append_own _ rfl _ _ 107 rfl w.heap.size 5 i0 (.int .u8 0) 1 1 Tryz.underlying107 hi hz0 hz1 hz2 rfl (by decide) _ _ _ rfl (hown.alloc _) ⟨wr.heap.size, 0, none⟩ 1 1 [.int .u8 ((b64Dig d0).toNat : Int)] rfl rfl (cell_one_new _ _ _) (by intro u hu; simp at hu; subst hu; rfl) (by unfold maxLen; simp; omega) (by simp; omega) (by have := hbr.size; simp; omega) ?_; intro v0 w0 ho0 hg0 _)
        have hb0 : Below w.heap.size w w0 := (hbr.alloc (hbr.size) _).grown hg0 (by have := hbr.size; simp; omega) (fun q hq => (hown.lt q hq).1)
        have hw0 := own_snoc ho0
        clear ho0 hg0
        go_wp2_with fail
        rw [rounds_succ]
        go_wp2_with (at_builtin; refine wpList_append_own _ rfl _ _ 107 rfl w.heap.size 5 i0 (.int .u8 0) 1 1 Tryz.underlying107 hi hz0 hz1 hz2 rfl (by decide) _ _ _ rfl (hw0.alloc _) ⟨w0.heap.size, 0, none⟩ 1 1 [.int .u8 ((b64Dig d1).toNat : Int)] rfl rfl (cell_one_new _ _ _) (by intro u hu; simp at hu; subst hu; rfl) (by unfold maxLen; simp; omega) (by simp; omega) (by have := hb0.size; simp; omega) ?_; intro v1 w1 ho1 hg1 _)
        have hb1 : Below w.heap.size w w1 := (hb0.alloc (hb0.size) _).grown hg1 (by have := hb0.size; simp; omega) (fun q hq => (hw0.lt q hq).1)
        have hw1 := own_snoc ho1
        clear ho1 hg1
        go_wp2_with fail
        rw [rounds_succ]
        go_wp2_with (at_builtin; refine wpList_append_own _ rfl _ _ 107 rfl w.heap.size 5 i0 (.int .u8 0) 1 1 Tryz.underlying107 hi hz0 hz1 hz2 rfl (by decide) _ _ _ rfl (hw1.alloc _) ⟨w1.heap.size, 0, none⟩ 1 1 [.int .u8 ((b64Dig d2).toNat : Int)] rfl rfl (cell_one_new _ _ _) (by intro u hu; simp at hu; subst hu; rfl) (by unfold maxLen; simp; omega) (by simp; omega) (by have := hb1.size; simp; omega) ?_; intro v2 w2 ho2 hg2 _)
        have hb2 : Below w.heap.size w w2 := (hb1.alloc (hb1.size) _).grown hg2 (by have := hb1.size; simp; omega) (fun q hq => (hw1.lt q hq).1)
        have hw2 := own_snoc ho2
        clear ho2 hg2
        go_wp2_with fail
        rw [rounds_succ]
        go_wp2_with fail
        have hP := Lib.hid (r_two H1.out HAk.out HB.out HD0.out HD1.out HD2.out HP.out)
        exact ⟨⟨k + 3, pre ++ [b64Dig d0] ++ [b64Dig d1] ++ [b64Dig d2], by omega, by go_num, by simpa using hw2, hP, by simp; omega, hb2⟩, by simp [intOf]; omega⟩
      · have hn1 : k + 1 < s.size := by omega
        obtain ⟨b, hb⟩ : ∃ b, s[k + 1].toNat = b := ⟨_, rfl⟩
        have hbl : b < 256 := hb ▸ s[k + 1].toNat_lt
        have HB := Lib.hid hb
        obtain ⟨c, hc⟩ : ∃ c, s[k + 2].toNat = c := ⟨_, rfl⟩
        have hcl : c < 256 := hc ▸ s[k + 2].toNat_lt
        have HC := Lib.hid hc
        have H1 := Lib.hid h3
        obtain ⟨d0, HD0⟩ : ∃ d0, Hid (a / 4 = d0) := ⟨_, Lib.hid rfl⟩
        have hd0 : d0 < 64 := by have := HD0.out; omega
        have ed0 : ((a : Int) * 65536 + (b : Int) * 256 + (c : Int)) / 262144 % 64 = (d0 : Int) := by have := HD0.out; omega
        have et0 := tab_lit d0 hd0
        obtain ⟨d1, HD1⟩ : ∃ d1, Hid (a % 4 * 16 + b / 16 = d1) := ⟨_, Lib.hid rfl⟩
        have hd1 : d1 < 64 := by have := HD1.out; omega
        have ed1 : ((a : Int) * 65536 + (b : Int) * 256 + (c : Int)) / 4096 % 64 = (d1 : Int) := by have := HD1.out; omega
        have et1 := tab_lit d1 hd1
        obtain ⟨d2, HD2⟩ : ∃ d2, Hid (b % 16 * 4 + c / 64 = d2) := ⟨_, Lib.hid rfl⟩
        have hd2 : d2 < 64 := by have := HD2.out; omega
        have ed2 : ((a : Int) * 65536 + (b : Int) * 256 + (c : Int)) / 64 % 64 = (d2 : Int) := by have := HD2.out; omega
        have et2 := tab_lit d2 hd2
        obtain ⟨d3, HD3⟩ : ∃ d3, Hid (c % 64 = d3) := ⟨_, Lib.hid rfl⟩
        have hd3 : d3 < 64 := by have := HD3.out; omega
        have ed3 : ((a : Int) * 65536 + (b : Int) * 256 + (c : Int)) % 64 = (d3 : Int) := by have := HD3.out; omega
        have et3 := tab_lit d3 hd3
        go_wp2_with fail
        refine wp_loop_rounds 5 ?_
        rw [rounds_succ]
        go_wp2_with (at_builtin; refine wpList_append_own _ rfl _ _ 107 rfl w.heap.size 5 i0 (.int .u8 0) 1 1 Tryz.underlying107 hi hz0 hz1 hz2 rfl (by decide) _ _ _ rfl (hown.alloc _) ⟨wr.heap.size, 0, none⟩ 1 1 [.int .u8 ((b64Dig d0).toNat : Int)] rfl rfl (cell_one_new _ _ _) (by intro u hu; simp at hu; subst hu; rfl) (by unfold maxLen; simp; omega) (by simp; omega) (by have := hbr.size; simp; omega) ?_; intro v0 w0 ho0 hg0 _)
        have hb0 : Below w.heap.size w w0 := (hbr.alloc (hbr.size) _).grown hg0 (by have := hbr.size; simp; omega) (fun q hq => (hown.lt q hq).1)
        have hw0 := own_snoc ho0
        clear ho0 hg0
        go_wp2_with fail
        rw [rounds_succ]
        go_wp2_with (at_builtin; refine wpList_append_own _ rfl _ _ 107 rfl w.heap.size 5 i0 (.int .u8 0) 1 1 Tryz.underlying107 hi hz0 hz1 hz2 rfl (by decide) _ _ _ rfl (hw0.alloc _) ⟨w0.heap.size, 0, none⟩ 1 1 [.int .u8 ((b64Dig d1).toNat : Int)] rfl rfl (cell_one_new _ _ _) (by intro u hu; simp at hu; subst hu; rfl) (by unfold maxLen; simp; omega) (by simp; omega) (by have := hb0.size; simp; omega) ?_; intro v1 w1 ho1 hg1 _)
        have hb1 : Below w.heap.size w w1 := (hb0.alloc (hb0.size) _).grown hg1 (by have := hb0.size; simp; omega) (fun q hq => (hw0.lt q hq).1)
        have hw1 := own_snoc ho1
        clear ho1 hg1
        go_wp2_with fail
        rw [rounds_succ]
        go_wp2_with (at_builtin; refine wpList_append_own _ rfl _ _ 107 rfl w.heap.size 5 i0 (.int .u8 0) 1 1 Tryz.underlying107 hi hz0 hz1 hz2 rfl (by decide) _ _ _ rfl (hw1.alloc _) ⟨w1.heap.size, 0, none⟩ 1 1 [.int .u8 ((b64Dig d2).toNat : Int)] rfl rfl (cell_one_new _ _ _) (by intro u hu; simp at hu; subst hu; rfl) (by unfold maxLen; simp; omega) (by simp; omega) (by have := hb1.size; simp; omega) ?_; intro v2 w2 ho2 hg2 _)
        have hb2 : Below w.heap.size w w2 := (hb1.alloc (hb1.size) _).grown hg2 (by have := hb1.size; simp; omega) (fun q hq => (hw1.lt q hq).1)
        have hw2 := own_snoc ho2
        clear ho2 hg2
        go_wp2_with fail
        rw [rounds_succ]
        go_wp2_with (at_builtin; refine wpList_append_own _ rfl _ _ 107 rfl w.heap.size 5 i0 (.int .u8 0) 1 1 Tryz.underlying107 hi hz0 hz1 hz2 rfl (by decide) _ _ _ rfl (hw2.alloc _) ⟨w2.heap.size, 0, none⟩ 1 1 [.int .u8 ((b64Dig d3).toNat : Int)] rfl rfl (cell_one_new _ _ _) (by intro u hu; simp at hu; subst hu; rfl) (by unfold maxLen; simp; omega) (by simp; omega) (by have := hb2.size; simp; omega) ?_; intro v3 w3 ho3 hg3 _)
        have hb3 : Below w.heap.size w w3 := (hb2.alloc (hb2.size) _).grown hg3 (by have := hb2.size; simp; omega) (fun q hq => (hw2.lt q hq).1)
        have hw3 := own_snoc ho3
        clear ho3 hg3
        go_wp2_with fail
        rw [rounds_succ]
        go_wp2_with fail
        have hP := Lib.hid (r_three H1.out HAk.out HB.out HC.out HD0.out HD1.out HD2.out HD3.out HP.out)
        exact ⟨⟨k + 3, pre ++ [b64Dig d0] ++ [b64Dig d1] ++ [b64Dig d2] ++ [b64Dig d3], by omega, by go_num, by simpa using hw3, hP, by simp; omega, hb3⟩, by simp [intOf]; omega⟩
    · have HE := Lib.hid (b64_end0 hlt HP.out)
      have hcv := conv_own hown
      go_wp2_with fail
      go_ret
      exact ⟨ret_str HE.out, hbr⟩
end Go.Proofs.YtiiioefjdebggaaGreatDoor

/- identityref02.Escape and .Unescape compute escS, unescS. -/
namespace Go.Proofs.YtiiioefjdebggaaGreatDoor
open Go.RowKit

theorem plainB_mk {c : UInt8} {b : Bool} (h : b = true ↔ (33 ≤ c.toNat ∧ c.toNat ≤ 126 ∧ c.toNat ≠ 37 ∧ c.toNat ≠ 124 ∧ c.toNat ≠ 44 ∧ c.toNat ≠ 61 ∧ c.toNat ≠ 59 ∧ c.toNat ≠ 34)) : b = plainB c := by
  rw [Bool.eq_iff_iff, h, plainB, decide_eq_true_iff]
set_option maxHeartbeats 2000000 in
theorem rplainB_any (c : UInt8) (w : World) :
    Calls Tryz.prog 153 #[.int .u8 (c.toNat : Int)] w fun e w' => e = .returned (.bool (plainB c)) ∧ w = w' := by
  have hcs : c.toNat = 37 ∨ c.toNat = 124 ∨ c.toNat = 44 ∨ c.toNat = 61 ∨ c.toNat = 59 ∨ c.toNat = 34 ∨ c.toNat < 33 ∨ c.toNat = 33 ∨ (34 < c.toNat ∧ c.toNat < 37) ∨ (37 < c.toNat ∧ c.toNat < 44) ∨ (44 < c.toNat ∧ c.toNat < 59) ∨ c.toNat = 60 ∨ (61 < c.toNat ∧ c.toNat < 124) ∨ c.toNat = 125 ∨ c.toNat = 126 ∨ 126 < c.toNat := by omega
  go_enter Tryz.func153, Tryz.ntmps153
  generalize hn : c.toNat = n at *
  have HN := Lib.hid hn
  clear hn
  rcases hcs with rfl | rfl | rfl | rfl | rfl | rfl | h | rfl | ⟨h1, h2⟩ | ⟨h1, h2⟩ | ⟨h1, h2⟩ | rfl | ⟨h1, h2⟩ | rfl | rfl | h
  all_goals
    go_wp2
    go_ret
    exact ⟨ret_bool (plainB_mk (by rw [HN.out]; simp; try omega)), rfl⟩

theorem hexTab_lt (k : Nat) (h : k < 16) (h' : k < hexTab.size) (c : UInt8) : hexTab[k] = c ↔ hexV c = some k := by
  rw [hexTab_el k h h']
  constructor
  · rintro rfl; exact hexV_dig k h
  · intro e; exact (hexU_val e).1
def digZ (c : UInt8) : Int := match hexV c with | none => -1 | some v => (v : Int)
theorem digZ_some {c : UInt8} {v : Nat} (h : hexV c = some v) : digZ c = (v : Int) := by simp [digZ, h]
theorem digZ_none {c : UInt8} (h : hexV c = none) : digZ c = -1 := by simp [digZ, h]
theorem dig_end {c : UInt8} (h : ∀ j, j < 16 → hexV c ≠ some j) : hexV c = none := by
  cases hv : hexV c with
  | none => rfl
  | some v => exact absurd hv (h v (hexV_lt hv))
set_option maxHeartbeats 1000000 in
theorem digit_any (c : UInt8) (w : World) :
    Calls Tryz.prog 137 #[.int .u8 (c.toNat : Int)] w fun e w' => e = .returned (.int .i64 (digZ c)) ∧ w = w' := by
  go_enter Tryz.func137, Tryz.ntmps137
  go_wp2_with fail
  go_loop [3] (fun i => ∃ k : Nat, k ≤ 16 ∧ i = .int .i64 k ∧ Hid (∀ j, j < k → hexV c ≠ some j)) (fun i => 16 - (intOf i).toNat)
  case atStart => exact ⟨0, Nat.zero_le _, rfl, Lib.hid (fun j h => by omega)⟩
  case round =>
    obtain ⟨k, hk, rfl, HA⟩ := hrel
    by_cases hlt : k < 16
    · have eA := hex_lit k hlt
      by_cases he : hexV c = some k
      · have HV := Lib.hid (digZ_some he)
        have hx : (hexU k) = c := (hexU_val he).1
        clear he
        go_wp2_with fail
        go_ret
        exact ⟨ret_int HV.out.symm, rfl⟩
      · have hx : ((((hexU k).toNat : Int) == (c.toNat : Int))) = false := by
          rw [beq_eq_false_iff_ne]
          intro e
          have : hexU k = c := UInt8.toNat_inj.1 (by omega)
          exact he (this ▸ hexV_dig k hlt)
        have HE := Lib.hid he
        clear he
        go_wp2_with fail
        go_round
        case rel => exact ⟨k + 1, by omega, by go_num, Lib.hid (fun j hj => by rcases Nat.lt_succ_iff_lt_or_eq.1 hj with h | rfl; exact HA.out j h; exact HE.out)⟩
        case measure => simp [intOf]; omega
    · have hV := Lib.hid (digZ_none (dig_end (fun j hj => HA.out j (by omega))))
      go_wp2_with fail
      go_ret
      exact ⟨ret_int hV.out.symm, rfl⟩

theorem cell_three_new (w : World) (x y z : Value) (t : TypeId) : ∀ j u, [x, y, z][j]? = some u → (w.alloc (.cells #[x, y, z] t)).cell? ((⟨w.heap.size, 0, none⟩ : Addr).add j) = some u := by
  intro j u hj
  match j, hj with
  | 0, hj => simp at hj; subst hj; simp [Addr.add]
  | 1, hj => simp at hj; subst hj; simp [Addr.add]
  | 2, hj => simp at hj; subst hj; simp [Addr.add]
theorem own_three {w : World} {base n : Nat} {v : Value} {l : List UInt8} {a b c : UInt8} (h : w.ownsRow base 5 1 v n (Lib.byteCells l ++ [Value.int .u8 (a.toNat : Int), Value.int .u8 (b.toNat : Int), Value.int .u8 (c.toNat : Int)])) :
    w.ownsRow base 5 1 v n (Lib.byteCells (l ++ [a] ++ [b] ++ [c])) := by
  have e : Lib.byteCells l ++ [Value.int .u8 (a.toNat : Int), Value.int .u8 (b.toNat : Int), Value.int .u8 (c.toNat : Int)] = Lib.byteCells (l ++ [a] ++ [b] ++ [c]) := by simp [Lib.byteCells]
  rw [← e]; exact h

set_option maxHeartbeats 2000000 in
set_option maxRecDepth 100000 in
theorem resc_any (s : ByteArray) (w : World) (hs : s.size ≤ 1000000000) :
    Calls Tryz.prog 130 #[.string s] w fun e w' => e = .returned (.string (escS s)) ∧ Below w.heap.size w w' := by
  obtain ⟨i0, hi, hz0, hz1, hz2⟩ := info_parts info_byte
  go_enter Tryz.func130, Tryz.ntmps130
  go_wp2_with fail
  go_loopw [3, 4] (fun v i wr => ∃ (k : Nat) (pre : List UInt8), k ≤ s.size ∧ i = .int .i64 k ∧ wr.ownsRow w.heap.size 5 1 v pre.length (Lib.byteCells pre) ∧ Hid (pre ++ escL (s.data.toList.drop k) = escL s.data.toList) ∧ pre.length ≤ 3 * k ∧ Below w.heap.size w wr) (fun _ i _ => s.size - (intOf i).toNat)
  case atStart => exact ⟨0, [], Nat.zero_le _, rfl, World.ownsRow_nil _ _ _ _, Lib.hid rfl, Nat.zero_le _, Below.refl _ _⟩
  case round =>
    obtain ⟨k, pre, hk, rfl, hown, HP, hpl, hbr⟩ := hrel
    by_cases hlt : k < s.size
    · cases hp : plainB s[k] with
      | true =>
        have HQ := Lib.hid hp
        go_wp2_with fail
        refine (rplainB_any s[k] wr).mono ?_
        rintro e w1 ⟨rfl, rfl⟩
        rw [hp]
        clear hp
        go_wp2_with (at_builtin; refine wpList_append_own _ rfl _ _ 107 rfl w.heap.size 5 i0 (.int .u8 0) 1 1 Tryz.underlying107 hi hz0 hz1 hz2 rfl (by decide) _ _ _ rfl (hown.alloc _) ⟨wr.heap.size, 0, none⟩ 1 1 [.int .u8 (s[k].toNat : Int)] rfl rfl (cell_one_new _ _ _) (by intro u hu; simp at hu; subst hu; rfl) (by unfold maxLen; simp; omega) (by simp; omega) (by have := hbr.size; simp; omega) ?_; intro v0 w0 ho0 hg0 _)
        have hb0 : Below w.heap.size w w0 := (hbr.alloc (hbr.size) _).grown hg0 (by have := hbr.size; simp; omega) (fun q hq => (hown.lt q hq).1)
        have hw0 := own_snoc ho0
        clear ho0 hg0
        go_wp2_with fail
        go_roundw
        case rel => exact ⟨k + 1, pre ++ [s[k]], by omega, by go_num, by simpa using hw0, Lib.hid (esc_step1 hlt HQ.out HP.out), by simp; omega, hb0⟩
        case measure => simp [intOf]; omega
      | false =>
        have HQ := Lib.hid hp
        obtain ⟨c, hc⟩ : ∃ c, s[k].toNat = c := ⟨_, rfl⟩
        have HC := Lib.hid hc
        have hcl : c < 256 := hc ▸ s[k].toNat_lt
        have hcp := rplainB_any s[k] wr
        rw [hc, hp] at hcp
        clear hp
        obtain ⟨a, HA⟩ : ∃ a, Hid (c / 16 = a) := ⟨_, Lib.hid rfl⟩
        have hal : a < 16 := by have := HA.out; omega
        have ea : (c : Int).tdiv 16 = (a : Int) := by have := HA.out; rw [Int.tdiv_eq_ediv_of_nonneg (by omega)]; omega
        obtain ⟨b, HB⟩ : ∃ b, Hid (c % 16 = b) := ⟨_, Lib.hid rfl⟩
        have hbl : b < 16 := by have := HB.out; omega
        have eb : (c : Int).tmod 16 = (b : Int) := by have := HB.out; rw [Int.tmod_eq_emod_of_nonneg (by omega)]; omega
        have wa : IntKind.u8.wrap (a : Int) = (a : Int) := by rw [IntKind.wrap_u8]; omega
        have wb : IntKind.u8.wrap (b : Int) = (b : Int) := by rw [IntKind.wrap_u8]; omega
        have eA := hex_lit a hal
        have eB := hex_lit b hbl
        have hi1 : (0 : Int) ≤ (k : Int) := by omega
        have hi2 : (k : Int) < (s.size : Int) := by omega
        have ha1 : (0 : Int) ≤ (a : Int) := by omega
        have ha2 : (a : Int) < 16 := by omega
        have hb1 : (0 : Int) ≤ (b : Int) := by omega
        have hb2 : (b : Int) < 16 := by omega
        go_wp2_with fail
        refine hcp.mono ?_
        rintro e w1 ⟨rfl, rfl⟩
        go_wp2_with fail
        have hown0 := hown.drew
        have hbr' := hbr.drew
        clear hcp
        go_region_law (refine step_append_lies _ (by rfl) _ _ _ (by rfl) w.heap.size 5 i0 _ 1 1 Tryz.underlying107 hi hz0 hz1 hz2 rfl (by omega) _ pre.length (Lib.byteCells pre) (by rfl) (hown0.alloc _) ⟨wr.heap.size, 0, none⟩ 3 3 [.int .u8 37, .int .u8 ((hexU a).toNat : Int), .int .u8 ((hexU b).toNat : Int)] (by rfl) (by rfl) ?_ ?_ (by omega) (by unfold maxLen; omega) (by omega) ?_ (wr.heap.size + 1) ?_ ?_; exact cell_three_new _ _ _ _ _; (intro u hu; simp at hu; rcases hu with rfl | rfl | rfl <;> rfl); (have := hbr.size; simp; omega); (simp); (intro gg cap w0 ho0 hg0 hat hlt3))
        all_goals
          have hb0 : Below w.heap.size w w0 := (hbr'.alloc (hbr'.size) _).grown hg0 (by have : w.heap.size ≤ wr.heap.size := hbr.size; simp; omega) (fun q hq => (hown0.lt q hq).1)
          have hw0 := own_three (a := 37) ho0
          clear ho0 hg0
          go_wp2_with fail
          have hP := esc_step3 hlt HQ.out HC.out HA.out HB.out HP.out
          go_roundw
          case rel => exact ⟨k + 1, _, by omega, by go_num, by simpa using hw0, Lib.hid hP, by simp; omega, hb0⟩
          case measure => simp [intOf]; omega
    · have HE := Lib.hid (esc_end hlt HP.out)
      have hcv := conv_own hown
      go_wp2_with fail
      go_ret
      exact ⟨ret_str HE.out, hbr⟩
end Go.Proofs.YtiiioefjdebggaaGreatDoor

/- identityref02.Unescape computes unescS, unescE. -/
namespace Go.Proofs.YtiiioefjdebggaaGreatDoor
open Go.RowKit

theorem raw_plain {s : ByteArray} {k : Nat} {pre : List UInt8} {L : Option (List UInt8)} (hk : k < s.size) (hp : s[k].toNat ≠ 37) (HP : (rawE (s.data.toList.drop k) 0).map (pre ++ ·) = L) :
    (rawE (s.data.toList.drop (k + 1)) 0).map ((pre ++ [s[k]]) ++ ·) = L := by
  rw [drop_cons s k hk, rawE, if_neg (by intro e; rw [e] at hp; exact hp rfl), r64_snoc] at HP
  exact HP
theorem raw_short {s : ByteArray} {k : Nat} {pre : List UInt8} {L : Option (List UInt8)} (hk : k < s.size) (h37 : s[k].toNat = 37) (hs : ¬ k + 2 < s.size) (HP : (rawE (s.data.toList.drop k) 0).map (pre ++ ·) = L) : L = none := by
  rw [drop_cons s k hk, u37 h37, rawE, if_pos rfl] at HP
  rw [← HP]
  by_cases h1 : k + 1 < s.size
  · rw [drop_cons s (k + 1) h1, rawE, List.drop_of_length_le (by simp; have : s.size = s.data.size := rfl; omega)]
    cases hexV s[k + 1] <;> rfl
  · rw [List.drop_of_length_le (by simp; have : s.size = s.data.size := rfl; omega)]; rfl
theorem raw_hex {s : ByteArray} {k : Nat} {pre : List UInt8} {L : Option (List UInt8)} (hs : k + 2 < s.size) (h37 : s[k].toNat = 37) (HP : (rawE (s.data.toList.drop k) 0).map (pre ++ ·) = L) :
    (((hexV s[k + 1]).bind fun a => (hexV s[k + 2]).bind fun b => (rawE (s.data.toList.drop (k + 3)) 0).map (UInt8.ofNat (a * 16 + b) :: ·)).map (pre ++ ·)) = L := by
  rw [drop_cons s k (by omega), u37 h37, rawE, if_pos rfl, drop_cons s (k + 1) (by omega), rawE, drop_cons s (k + 2) hs] at HP
  rw [← HP]
  cases hexV s[k + 1] with
  | none => rfl
  | some a => rw [Option.bind_some, Option.bind_some, rawE]
theorem raw_none {s : ByteArray} (h : rawE s.data.toList 0 = none) : unescS s = ⟨#[]⟩ ∧ unescE s = 4 := un_none (by rw [raw_same, h]; rfl)
theorem raw_end {s : ByteArray} {k : Nat} {pre : List UInt8} (hk : ¬ k < s.size) (HP : (rawE (s.data.toList.drop k) 0).map (pre ++ ·) = rawE s.data.toList 0) :
    unescO s = if escL pre = s.data.toList then some ⟨pre.toArray⟩ else none := by
  rw [List.drop_of_length_le (by simp; have : s.size = s.data.size := rfl; omega), rawE] at HP
  rw [unescO, raw_same, ← HP]
  by_cases h : escL pre = s.data.toList <;> simp [h]
theorem un_noneO {s : ByteArray} (h : unescO s = none) : unescS s = ⟨#[]⟩ ∧ unescE s = 4 := by
  simp [unescS, unescE, h]; rfl
theorem digit_at (c : UInt8) (v : Nat) (w : World) (h : hexV c = some v) :
    Calls Tryz.prog 137 #[.int .u8 (c.toNat : Int)] w fun e w' => e = .returned (.int .i64 (v : Int)) ∧ w = w' := by
  have := digit_any c w; rw [digZ_some h] at this; exact this
theorem digit_none (c : UInt8) (w : World) (h : hexV c = none) :
    Calls Tryz.prog 137 #[.int .u8 (c.toNat : Int)] w fun e w' => e = .returned (.int .i64 (-1)) ∧ w = w' := by
  have := digit_any c w; rw [digZ_none h] at this; exact this

set_option maxHeartbeats 4000000 in
set_option maxRecDepth 100000 in
theorem runesc_any (s : ByteArray) (w : World) (hs : s.size ≤ 1000000000) :
    Calls Tryz.prog 97 #[.string s] w fun e w' => e = .returned (.tuple #[.string (unescS s), .int .i64 (unescE s)]) ∧ Below w.heap.size w w' := by
  obtain ⟨i0, hi, hz0, hz1, hz2⟩ := info_parts info_byte
  go_enter Tryz.func97, Tryz.ntmps97
  go_wp2_with fail
  go_loopw [4, 5] (fun v i wr => ∃ (k : Nat) (pre : List UInt8), k ≤ s.size ∧ i = .int .i64 k ∧ wr.ownsRow w.heap.size 5 1 v pre.length (Lib.byteCells pre) ∧ Hid ((rawE (s.data.toList.drop k) 0).map (pre ++ ·) = rawE s.data.toList 0) ∧ pre.length ≤ k ∧ Below w.heap.size w wr) (fun _ i _ => s.size - (intOf i).toNat)
  case atStart => exact ⟨0, [], Nat.zero_le _, rfl, World.ownsRow_nil _ _ _ _, Lib.hid (by simp), Nat.zero_le _, Below.refl _ _⟩
  case round =>
    obtain ⟨k, pre, hk, rfl, hown, HP, hpl, hbr⟩ := hrel
    by_cases hlt : k < s.size
    · by_cases h37 : s[k].toNat = 37
      · have H37 := Lib.hid h37
        have hb37 : ((37 : Int) != 37) = false := rfl
        by_cases h2 : k + 2 < s.size
        · have HX := raw_hex h2 H37.out HP.out
          have hw1 : IntKind.i64.wrap ((k : Int) + 1) = (k : Int) + 1 := IntWalk.i64_in _ (by omega)
          have hw2 : IntKind.i64.wrap ((k : Int) + 2) = (k : Int) + 2 := IntWalk.i64_in _ (by omega)
          have hb1a : (0 : Int) ≤ (k : Int) + 1 := by omega
          have hb1b : (k : Int) + 1 < (s.size : Int) := by omega
          have hb2a : (0 : Int) ≤ (k : Int) + 2 := by omega
          have hb2b : (k : Int) + 2 < (s.size : Int) := by omega
          obtain ⟨c1, hc1⟩ : ∃ c1, s[k + 1] = c1 := ⟨_, rfl⟩
          obtain ⟨c2, hc2⟩ : ∃ c2, s[k + 2] = c2 := ⟨_, rfl⟩
          rw [hc1, hc2] at HX
          cases h1 : hexV c1 with
          | none =>
            rw [h1, Option.bind_none, Option.map_none] at HX
            have hN := Lib.hid (raw_none HX.symm)
            have H1 := Lib.hid h1
            clear h1 HX
            go_wp2_with fail
            refine (digit_none _ _ H1.out).mono ?_
            rintro e w1 ⟨rfl, rfl⟩
            go_wp2_with fail
            go_ret2
            exact ⟨ret_se hN.out.1.symm hN.out.2.symm, hbr⟩
          | some a =>
            rw [h1, Option.bind_some] at HX
            have H1 := Lib.hid h1
            have hal := hexV_lt h1
            clear h1
            cases hv2 : hexV c2 with
            | none =>
              rw [hv2, Option.bind_none, Option.map_none] at HX
              have hN := Lib.hid (raw_none HX.symm)
              have H2 := Lib.hid hv2
              clear hv2 HX
              go_wp2_with fail
              refine (digit_at _ _ _ H1.out).mono ?_
              rintro e w1 ⟨rfl, rfl⟩
              go_wp2_with fail
              refine (digit_none _ _ H2.out).mono ?_
              rintro e w1 ⟨rfl, rfl⟩
              go_wp2_with fail
              go_ret2
              exact ⟨ret_se hN.out.1.symm hN.out.2.symm, hbr⟩
            | some b =>
              rw [hv2, Option.bind_some, r64_snoc] at HX
              have H2 := Lib.hid hv2
              have hbl := hexV_lt hv2
              clear hv2
              obtain ⟨x, HXx⟩ : ∃ x, Hid (16 * a = x) := ⟨_, Lib.hid rfl⟩
              have e1 : IntKind.i64.wrap (16 * (a : Int)) = (x : Int) := by rw [IntWalk.i64_in _ (by omega)]; have := HXx.out; omega
              obtain ⟨z, HZ⟩ : ∃ z, Hid (x + b = z) := ⟨_, Lib.hid rfl⟩
              have e2 : IntKind.i64.wrap ((x : Int) + (b : Int)) = (z : Int) := by rw [IntWalk.i64_in _ (by have := HXx.out; omega)]; have := HZ.out; omega
              obtain ⟨q, HQq⟩ : ∃ q, Hid (UInt8.ofNat (a * 16 + b) = q) := ⟨_, Lib.hid rfl⟩
              have eb : IntKind.u8.wrap (z : Int) = (q.toNat : Int) := by rw [wrap_u8, ← HQq.out, ← HZ.out, ← HXx.out, Nat.mul_comm]
              rw [HQq.out] at HX
              have HP1 := Lib.hid HX
              clear HX
              have hn2 : ((k : Int) + 2).toNat = k + 2 := by omega
              have hi1 : (0 : Int) ≤ (k : Int) := by omega
              have hi2 : (k : Int) < (s.size : Int) := by omega
              go_wp2_with fail
              refine (digit_at _ _ _ H1.out).mono ?_
              rintro e w1 ⟨rfl, rfl⟩
              go_wp2_with fail
              refine (digit_at _ _ _ H2.out).mono ?_
              rintro e w1 ⟨rfl, rfl⟩
              go_wp2_with fail
              have hbr' := hbr.drew
              go_region_held3 (fun _ => True) (trivial) (first
                | (go_at_call_of 137 c1; refine (digit_at c1 a _ H1.out).mono ?_; rintro e w2 ⟨rfl, rfl⟩)
                | (go_at_call_of 137 c2; refine (digit_at c2 b _ H2.out).mono ?_; rintro e w2 ⟨rfl, rfl⟩)
                | (refine step_append_lies _ (by rfl) _ _ _ (by rfl) w.heap.size 5 i0 _ 1 1 Tryz.underlying107 hi hz0 hz1 hz2 rfl (by omega) _ pre.length (Lib.byteCells pre) (by rfl) ?_ ⟨wr.heap.size, 0, none⟩ 1 1 [.int .u8 (q.toNat : Int)] (by rfl) (by rfl) ?_ ?_ (by omega) (by unfold maxLen; omega) (by omega) ?_ (wr.heap.size + 1) ?_ ?_; exact (hown.alloc _).drew; exact cell_one_new _ _ _; (intro u hu; simp at hu; subst hu; rfl); (have := hbr.size; simp; omega); (simp); (intro gg cap w0 ho0 hg0 hat hlt3)))
              all_goals
                have hb0 : Below w.heap.size w w0 := (hbr'.alloc (hbr'.size) _).grown hg0 (by have : w.heap.size ≤ wr.heap.size := hbr.size; simp; omega) (fun q hq => (hown.lt q hq).1)
                have hw0 := own_snoc ho0
                clear ho0 hg0
                go_wp2_with fail
                go_roundw
                case rel => exact ⟨k + 3, pre ++ [q], by omega, by go_num, by simpa using hw0, HP1, by simp; omega, hb0⟩
                case measure => simp [intOf]; omega
        · have hN := Lib.hid (raw_none (raw_short hlt H37.out h2 HP.out))
          go_wp2_with fail
          go_ret2
          exact ⟨ret_se hN.out.1.symm hN.out.2.symm, hbr⟩
      · have hb37 : ((s[k].toNat : Int) != 37) = true := by rw [bne_iff_ne]; omega
        have H37 := Lib.hid h37
        clear h37
        go_wp2_with (at_builtin; refine wpList_append_own _ rfl _ _ 107 rfl w.heap.size 5 i0 (.int .u8 0) 1 1 Tryz.underlying107 hi hz0 hz1 hz2 rfl (by decide) _ _ _ rfl (hown.alloc _) ⟨wr.heap.size, 0, none⟩ 1 1 [.int .u8 (s[k].toNat : Int)] rfl rfl (cell_one_new _ _ _) (by intro u hu; simp at hu; subst hu; rfl) (by unfold maxLen; simp; omega) (by simp; omega) (by have := hbr.size; simp; omega) ?_; intro v0 w0 ho0 hg0 _)
        have hb0 : Below w.heap.size w w0 := (hbr.alloc (hbr.size) _).grown hg0 (by have := hbr.size; simp; omega) (fun q hq => (hown.lt q hq).1)
        have hw0 := own_snoc ho0
        clear ho0 hg0
        go_wp2_with fail
        go_roundw
        case rel => exact ⟨k + 1, pre ++ [s[k]], by omega, by go_num, by simpa using hw0, Lib.hid (raw_plain hlt H37.out HP.out), by simp; omega, hb0⟩
        case measure => simp [intOf]; omega
    · have hE := Lib.hid (raw_end hlt HP.out)
      have hcv := conv_own hown
      have hsz : (⟨pre.toArray⟩ : ByteArray).size ≤ 1000000000 := by show pre.toArray.size ≤ _; simp; omega
      have HSZ := Lib.hid hsz
      clear hsz
      by_cases he : escL pre = s.data.toList
      · have hG := Lib.hid (un_some (hE.out.trans (if_pos he)))
        have hq : (escS ⟨pre.toArray⟩) = s := by
          apply ByteArray.ext
          simp [escS, he]
        have hr := resc_any ⟨pre.toArray⟩ wr HSZ.out
        rw [hq] at hr
        have hss : (s.toList == s.toList) = true := by simp
        clear he hq
        go_wp2_with fail
        refine hr.mono ?_
        rintro e w1 ⟨rfl, hb1⟩
        have hcv1 := conv_own (own_below hown hb1)
        go_wp2_with fail
        go_ret2
        exact ⟨ret_se hG.out.1.symm hG.out.2.symm, hbr.trans (hb1.mono hbr.size)⟩
      · have hG := Lib.hid (un_noneO (hE.out.trans (if_neg he)))
        have hne : escS ⟨pre.toArray⟩ ≠ s := by
          intro e
          apply he
          rw [← e]; simp [escS]
        have hr := resc_any ⟨pre.toArray⟩ wr HSZ.out
        generalize escS ⟨pre.toArray⟩ = q at hr hne
        have hss := str_ne hne
        clear he hne
        go_wp2_with fail
        refine hr.mono ?_
        rintro e w1 ⟨rfl, hb1⟩
        go_wp2_with fail
        go_ret2
        exact ⟨ret_se hG.out.1.symm hG.out.2.symm, hbr.trans (hb1.mono hbr.size)⟩
end Go.Proofs.YtiiioefjdebggaaGreatDoor

/- identityref02.Cut. -/
namespace Go.Proofs.YtiiioefjdebggaaGreatDoor
open Go.RowKit

set_option maxHeartbeats 2000000 in
set_option maxRecDepth 100000 in
theorem rcut_any (s : ByteArray) (c : UInt8) (w : World) (hs : s.size ≤ 1000000000) :
    Calls Tryz.prog 138 #[.string s, .int .u8 (c.toNat : Int)] w fun e w' => RetStrs w.heap.size w' e (cutsS s c) ∧ Below w.heap.size w w' := by
  obtain ⟨i0, hi, hz0, hz1, hz2⟩ := info_parts Tryz.info_s
  go_enter Tryz.func138, Tryz.ntmps138
  go_wp2_with fail
  go_loopw [5, 6, 7] (fun v fr i wr => ∃ (k f : Nat) (P : List ByteArray), k ≤ s.size ∧ f ≤ k ∧ i = .int .i64 k ∧ fr = .int .i64 f ∧ wr.ownsRow w.heap.size 9 1 v P.length (strVs P) ∧ Hid (P ++ cutsL c (s.data.toList.drop f) = cutsS s c) ∧ Hid (c ∉ (s.data.toList.take k).drop f) ∧ P.length ≤ k ∧ Below w.heap.size w wr) (fun _ _ i _ => s.size - (intOf i).toNat)
  case atStart => exact ⟨0, 0, [], Nat.zero_le _, Nat.zero_le _, rfl, rfl, World.ownsRow_nil _ _ _ _, Lib.hid rfl, Lib.hid (by simp), Nat.zero_le _, Below.refl _ _⟩
  case round =>
    obtain ⟨k, f, P, hk, hf, rfl, rfl, hown, HP, HN, hpl, hbr⟩ := hrel
    by_cases hlt : k < s.size
    · by_cases hc : s[k] = c
      · have HC := Lib.hid hc
        have hceq : ((s[k].toNat : Int) == (c.toNat : Int)) = true := by rw [hc]; simp
        clear hc
        go_wp2_with (at_builtin; refine wpList_append_own _ rfl _ _ 23 rfl w.heap.size 9 i0 (.string ByteArray.empty) 1 16 Tryz.underlying23 hi hz0 hz1 hz2 rfl (by decide) _ _ _ rfl (hown.alloc _) ⟨wr.heap.size, 0, none⟩ 1 1 [strV (s.extract f k)] rfl rfl (cell_one_new _ _ _) (by intro u hu; simp at hu; subst hu; rfl) (by unfold maxLen; omega) (by omega) (by have := hbr.size; simp; omega) ?_; intro v' w1 hown1 hg1 _)
        have hb1 : Below w.heap.size w w1 := (hbr.alloc (hbr.size) _).grown hg1 (by have := hbr.size; simp; omega) (fun q hq => (hown.lt q hq).1)
        have HO : Hid (w1.ownsRow w.heap.size 9 1 v' (P ++ [s.extract f k]).length (strVs (P ++ [s.extract f k]))) := by
          show World.ownsRow _ _ _ _ _ _ _
          rw [← strVs_snoc, List.length_append]; exact hown1
        clear hown1 hg1
        go_wp2_with fail
        go_roundw
        case rel => exact ⟨k + 1, k + 1, P ++ [s.extract f k], by omega, by omega, by go_num, by go_num, HO.out, Lib.hid (cuts_step hf hlt HC.out HN.out HP.out), Lib.hid (by simp), by simp; omega, hb1⟩
        case measure => simp [intOf]; omega
      · have HC := Lib.hid hc
        have hcne : ((s[k].toNat : Int) == (c.toNat : Int)) = false := by
          rw [beq_eq_false_iff_ne]
          intro e
          exact hc (UInt8.toNat_inj.1 (by omega))
        clear hc
        go_wp2_with fail
        go_roundw
        case rel => exact ⟨k + 1, f, P, by omega, by omega, by go_num, rfl, hown, HP, Lib.hid (cuts_next hf hlt HC.out HN.out), by omega, hbr⟩
        case measure => simp [intOf]; omega
    · have HE := Lib.hid (cuts_end hlt HN.out HP.out)
      go_wp2_with (at_builtin; refine wpList_append_own _ rfl _ _ 23 rfl w.heap.size 9 i0 (.string ByteArray.empty) 1 16 Tryz.underlying23 hi hz0 hz1 hz2 rfl (by decide) _ _ _ rfl (hown.alloc _) ⟨wr.heap.size, 0, none⟩ 1 1 [strV (s.extract f s.size)] rfl rfl (cell_one_new _ _ _) (by intro u hu; simp at hu; subst hu; rfl) (by unfold maxLen; omega) (by omega) (by have := hbr.size; simp; omega) ?_; intro v' w1 hown1 hg1 _)
      have hb1 : Below w.heap.size w w1 := (hbr.alloc (hbr.size) _).grown hg1 (by have := hbr.size; simp; omega) (fun q hq => (hown.lt q hq).1)
      have HO : Hid (w1.ownsRow w.heap.size 9 1 v' (P ++ [s.extract f s.size]).length (strVs (P ++ [s.extract f s.size]))) := by
        show World.ownsRow _ _ _ _ _ _ _
        rw [← strVs_snoc, List.length_append]; exact hown1
      clear hown1 hg1
      go_wp2_with fail
      go_ret
      refine ⟨?_, hb1⟩
      have ho := HO.out
      rw [HE.out] at ho
      exact RetStrs.own ho rfl (strVs_at _)
end Go.Proofs.YtiiioefjdebggaaGreatDoor

/- Plain: strings with a byte between them, one after the other. -/
namespace Go.Proofs.YtiiioefjdebggaaGreatDoor
open Go.RowKit

theorem joinL_snoc (c : UInt8) : ∀ (ps : List (List UInt8)) (p : List UInt8), ps ≠ [] → joinL c (ps ++ [p]) = joinL c ps ++ c :: p
  | [], p, h => absurd rfl h
  | [q], p, _ => by simp [joinL]
  | q :: r :: ps, p, _ => by
    have ih := joinL_snoc c (r :: ps) p (by simp)
    rw [List.cons_append, joinL_cons c q _ (by simp), ih, joinL_cons c q (r :: ps) (by simp)]
    simp
theorem joinC_zero (c : UInt8) (l : List ByteArray) : joinC c (l.take 0) = ⟨#[]⟩ := by simp [joinC, joinL, bsOf]
theorem joinC_nil (c : UInt8) : joinC c [] = ⟨#[]⟩ := by simp [joinC, joinL, bsOf]
theorem joinC_one (c : UInt8) (s : ByteArray) : joinC c [s] = s := by simp [joinC, joinL, bsOf_list]
theorem take_one (l : List ByteArray) (h : 0 < l.length) : l.take 1 = [l[0]] := by
  cases l with
  | nil => simp at h
  | cons a l => simp
theorem joinC_snoc (c : UInt8) (l : List ByteArray) (k : Nat) (h0 : 0 < k) (h : k < l.length) : joinC c (l.take (k + 1)) = joinC c (l.take k) ++ ⟨#[c]⟩ ++ l[k] := by
  apply ByteArray.ext
  rw [List.take_succ_eq_append_getElem h, joinC, List.map_append, List.map_cons, List.map_nil, joinL_snoc _ _ _ (by intro e; have := congrArg List.length e; rw [List.length_map, List.length_take, List.length_nil] at this; omega)]
  simp [joinC, bsOf]
theorem joinC_size (c : UInt8) (l : List ByteArray) (M : Nat) (hz : ∀ s ∈ l, s.size ≤ M) : ∀ k, k ≤ l.length → (joinC c (l.take k)).size ≤ k * (M + 1) := by
  intro k
  induction k with
  | zero => intro _; rw [joinC_zero]; exact Nat.zero_le _
  | succ k ih =>
    intro hk
    have h1 := hz _ (List.getElem_mem (show k < l.length by omega))
    by_cases h0 : k = 0
    · subst h0
      rw [take_one l (by omega), joinC_one]; omega
    · rw [joinC_snoc c l k (by omega) (by omega)]
      have h2 := ih (by omega)
      have h3 : (⟨#[c]⟩ : ByteArray).size = 1 := rfl
      rw [ByteArray.size_append, ByteArray.size_append, h3, Nat.succ_mul]
      omega
theorem joinC_all (c : UInt8) (l : List ByteArray) (k : Nat) (h : ¬ k < l.length) : joinC c (l.take k) = joinC c l := by
  rw [List.take_of_length_le (by omega)]
end Go.Proofs.YtiiioefjdebggaaGreatDoor

