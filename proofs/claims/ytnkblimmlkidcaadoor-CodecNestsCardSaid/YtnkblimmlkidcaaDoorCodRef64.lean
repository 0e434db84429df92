/- identityref02.Base64 computes b64S. -/
import Derived.Test.YtnkblimmlkidcaaDoorCodB64
import Derived.Laws.OwnMore
import Derived.Laws.IdiomStrings
import Derived.Lib.BufferRead
namespace Go.Proofs.YtnkblimmlkidcaaDoor
open Go.RowKit

theorem byteCells_at (l : List UInt8) (j : Nat) (h : j < l.length) : (Lib.byteCells l)[j]? = some (Value.int .u8 (l[j].toNat : Int)) := by
  simp [Lib.byteCells, h]
/-- string(b), b a row of bytes of the call's own. -/
theorem conv_own {w : World} {base n : Nat} {v : Value} {l : List UInt8} (h : w.ownsRow base 5 1 v n (Lib.byteCells l)) :
    (convert 50 9 v).run Tryd.prog w = .ok (.string ⟨l.toArray⟩) w := by
  have hl : l.length = n := by have := h.1; simpa [Lib.byteCells_length] using this
  subst hl
  rcases h.2 with ⟨rfl, h0⟩ | ⟨g, cap, cur, rfl, hg, hh, rest⟩
  · have : l = [] := List.eq_nil_of_length_eq_zero h0
    subst this
    exact Lib.run_convert_nil_bytes w 50 9 5 0 Tryd.underlying50 Tryd.underlying5 Tryd.underlying9
  · refine run_convert_bytes_back w 50 9 5 ⟨g, 0, none⟩ cap l Tryd.underlying50 Tryd.underlying5 Tryd.underlying9 (fun j hj => ?_)
    exact h.cells (g := g) rfl j _ (byteCells_at l j hj)
theorem byteCells_app (l m : List UInt8) : Lib.byteCells l ++ Lib.byteCells m = Lib.byteCells (l ++ m) := by simp [Lib.byteCells]
/-- A letter more. -/
theorem own_snoc {w : World} {base n : Nat} {v : Value} {l : List UInt8} {c : UInt8} (h : w.ownsRow base 5 1 v n (Lib.byteCells l ++ [Value.int .u8 (c.toNat : Int)])) :
    w.ownsRow base 5 1 v n (Lib.byteCells (l ++ [c])) := by
  rw [← byteCells_app]; exact h
theorem tab_lit (d : Nat) (h : d < 64) : (⟨#[65, 66, 67, 68, 69, 70, 71, 72, 73, 74, 75, 76, 77, 78, 79, 80, 81, 82, 83, 84, 85, 86, 87, 88, 89, 90, 97, 98, 99, 100, 101, 102, 103, 104, 105, 106, 107, 108, 109, 110, 111, 112, 113, 114, 115, 116, 117, 118, 119, 120, 121, 122, 48, 49, 50, 51, 52, 53, 54, 55, 56, 57, 45, 95]⟩ : ByteArray)[d]'h = b64Dig d := b64Tab_el d h h
theorem r_three {s : ByteArray} {k a b c d0 d1 d2 d3 : Nat} {pre L : List UInt8} (hk : k + 2 < s.size) (ha : s[k].toNat = a) (hb : s[k + 1].toNat = b) (hc : s[k + 2].toNat = c) (h0 : a / 4 = d0) (h1 : a % 4 * 16 + b / 16 = d1) (h2 : b % 16 * 4 + c / 64 = d2) (h3 : c % 64 = d3) (HP : pre ++ b64E (s.data.toList.drop k) 0 0 = L) :
    (pre ++ [b64Dig d0] ++ [b64Dig d1] ++ [b64Dig d2] ++ [b64Dig d3]) ++ b64E (s.data.toList.drop (k + 3)) 0 0 = L := by
  rw [drop_cons s k (by omega), b64E, drop_cons s (k + 1) (by omega), b64E, drop_cons s (k + 2) hk, b64E, ha, hb, hc, h0, h1, h2, h3] at HP
  · rw [← HP]; simp
  all_goals omega
theorem r_two {s : ByteArray} {k a b d0 d1 d2 : Nat} {pre L : List UInt8} (hk : k + 2 = s.size) (ha : (s[k]'(by omega)).toNat = a) (hb : (s[k + 1]'(by omega)).toNat = b) (h0 : a / 4 = d0) (h1 : a % 4 * 16 + b / 16 = d1) (h2 : b % 16 * 4 = d2) (HP : pre ++ b64E (s.data.toList.drop k) 0 0 = L) :
    (pre ++ [b64Dig d0] ++ [b64Dig d1] ++ [b64Dig d2]) ++ b64E (s.data.toList.drop (k + 3)) 0 0 = L := by
  rw [drop_cons s k (by omega), b64E, drop_cons s (k + 1) (by omega), b64E, List.drop_of_length_le (i := k + 1 + 1) (by simp; have : s.size = s.data.size := rfl; omega), b64E, ha, hb, h0, h1, h2] at HP
  · rw [← HP, List.drop_of_length_le (by simp; have : s.size = s.data.size := rfl; omega), b64E]; simp
  all_goals omega
theorem r_one {s : ByteArray} {k a d0 d1 : Nat} {pre L : List UInt8} (hk : k + 1 = s.size) (ha : (s[k]'(by omega)).toNat = a) (h0 : a / 4 = d0) (h1 : a % 4 * 16 = d1) (HP : pre ++ b64E (s.data.toList.drop k) 0 0 = L) :
    (pre ++ [b64Dig d0] ++ [b64Dig d1]) ++ b64E (s.data.toList.drop (k + 3)) 0 0 = L := by
  rw [drop_cons s k (by omega), b64E, List.drop_of_length_le (i := k + 1) (by simp; have : s.size = s.data.size := rfl; omega), b64E, ha, h0, h1] at HP
  rw [← HP, List.drop_of_length_le (by simp; have : s.size = s.data.size := rfl; omega), b64E]; simp

set_option maxHeartbeats 4000000 in
set_option maxRecDepth 100000 in
theorem rbase64_any (s : ByteArray) (w : World) (hs : s.size ≤ 1000000000) :
    Calls Tryd.prog 35 #[.string s] w fun e w' => e = .returned (.string (b64S s)) ∧ Below w.heap.size w w' := by
  obtain ⟨i0, hi, hz0, hz1, hz2⟩ := info_parts info_byte
  go_enter Tryd.func35, Tryd.ntmps35
  go_wp2_with fail
  go_loopw [3, 4, 5, 6, 7, 8] (fun v i _ _ _ _ wr => ∃ (k : Nat) (pre : List UInt8), k ≤ s.size + 2 ∧ i = .int .i64 k ∧ wr.ownsRow w.heap.size 5 1 v pre.length (Lib.byteCells pre) ∧ Hid (pre ++ b64E (s.data.toList.drop k) 0 0 = b64L s.data.toList) ∧ pre.length ≤ 2 * k ∧ Below w.heap.size w wr) (fun _ i _ _ _ _ _ => s.size + 2 - (intOf i).toNat)
  case atStart => exact ⟨0, [], by omega, rfl, World.ownsRow_nil _ _ _ _, Lib.hid rfl, Nat.zero_le _, Below.refl _ _⟩
  case round =>
    obtain ⟨k, pre, hk, rfl, hown, HP, hpl, hbr⟩ := hrel
    by_cases hlt : k < s.size
    · obtain ⟨a, ha⟩ : ∃ a, s[k].toNat = a := ⟨_, rfl⟩
      have hal : a < 256 := ha ▸ s[k].toNat_lt
      have HAk := Lib.hid ha
      have hcs : k + 1 = s.size ∨ k + 2 = s.size ∨ k + 2 < s.size := by omega
      rcases hcs with h1 | h2 | h3
      · have H1 := Lib.hid h1
        have hn1 : s.size < k + 1 + 1 := by omega
        have hn2 : s.size < k + 2 + 1 := by omega
        clear h1
        obtain ⟨d0, HD0⟩ : ∃ d0, Hid (a / 4 = d0) := ⟨_, Lib.hid rfl⟩
        have hd0 : d0 < 64 := by have := HD0.out; omega
        have ed0 : ((a : Int) * 65536) / 262144 % 64 = (d0 : Int) := by have := HD0.out; omega
        have et0 := tab_lit d0 hd0
        obtain ⟨d1, HD1⟩ : ∃ d1, Hid (a % 4 * 16 = d1) := ⟨_, Lib.hid rfl⟩
        have hd1 : d1 < 64 := by have := HD1.out; omega
        have ed1 : ((a : Int) * 65536) / 4096 % 64 = (d1 : Int) := by have := HD1.out; omega
        have et1 := tab_lit d1 hd1
        go_wp2_with fail
        refine wp_loop_rounds 3 ?_
        rw [rounds_succ]
        go_wp2_with (at_builtin; refine wpList_append_own _ rfl _ _ 50 rfl w.heap.size 5 i0 (.int .u8 0) 1 1 Tryd.underlying50 hi hz0 hz1 hz2 rfl (by decide) _ _ _ rfl (hown.alloc _) ⟨wr.heap.size, 0, none⟩ 1 1 [.int .u8 ((b64Dig d0).toNat : Int)] rfl rfl (cell_one_new _ _ _) (by intro u hu; simp at hu; subst hu; rfl) (by unfold maxLen; simp; omega) (by simp; omega) (by have := hbr.size; simp; omega) ?_; intro v0 w0 ho0 hg0 _)
        have hb0 : Below w.heap.size w w0 := (hbr.alloc (hbr.size) _).grown hg0 (by have := hbr.size; simp; omega) (fun q hq => (hown.lt q hq).1)
        have hw0 := own_snoc ho0
        clear ho0 hg0
        go_wp2_with fail
        rw [rounds_succ]
        go_wp2_with (at_builtin; refine wpList_append_own _ rfl _ _ 50 rfl w.heap.size 5 i0 (.int .u8 0) 1 1 Tryd.underlying50 hi hz0 hz1 hz2 rfl (by decide) _ _ _ rfl (hw0.alloc _) ⟨w0.heap.size, 0, none⟩ 1 1 [.int .u8 ((b64Dig d1).toNat : Int)] rfl rfl (cell_one_new _ _ _) (by intro u hu; simp at hu; subst hu; rfl) (by unfold maxLen; simp; omega) (by simp; omega) (by have := hb0.size; simp; omega) ?_; intro v1 w1 ho1 hg1 _)
        have hb1 : Below w.heap.size w w1 := (hb0.alloc (hb0.size) _).grown hg1 (by have := hb0.size; simp; omega) (fun q hq => (hw0.lt q hq).1)
        have hw1 := own_snoc ho1
        clear ho1 hg1
        go_wp2_with fail
        rw [rounds_succ]
        go_wp2_with fail
        have hP := Lib.hid (r_one H1.out HAk.out HD0.out HD1.out HP.out)
        exact ⟨⟨k + 3, pre ++ [b64Dig d0] ++ [b64Dig d1], by omega, by go_num, by simpa using hw1, hP, by simp; omega, hb1⟩, by simp [intOf]; omega⟩
      · have H1 := Lib.hid h2
        have hn1 : k + 1 < s.size := by omega
        have hn2 : s.size < k + 2 + 1 := by omega
        obtain ⟨b, hb⟩ : ∃ b, s[k + 1].toNat = b := ⟨_, rfl⟩
        have hbl : b < 256 := hb ▸ s[k + 1].toNat_lt
        have HB := Lib.hid hb
        clear h2
        obtain ⟨d0, HD0⟩ : ∃ d0, Hid (a / 4 = d0) := ⟨_, Lib.hid rfl⟩
        have hd0 : d0 < 64 := by have := HD0.out; omega
        have ed0 : ((a : Int) * 65536 + (b : Int) * 256) / 262144 % 64 = (d0 : Int) := by have := HD0.out; omega
        have et0 := tab_lit d0 hd0
        obtain ⟨d1, HD1⟩ : ∃ d1, Hid (a % 4 * 16 + b / 16 = d1) := ⟨_, Lib.hid rfl⟩
        have hd1 : d1 < 64 := by have := HD1.out; omega
        have ed1 : ((a : Int) * 65536 + (b : Int) * 256) / 4096 % 64 = (d1 : Int) := by have := HD1.out; omega
        have et1 := tab_lit d1 hd1
        obtain ⟨d2, HD2⟩ : ∃ d2, Hid (b % 16 * 4 = d2) := ⟨_, Lib.hid rfl⟩
        have hd2 : d2 < 64 := by have := HD2.out; omega
        have ed2 : ((a : Int) * 65536 + (b : Int) * 256) / 64 % 64 = (d2 : Int) := by have := HD2.out; omega
        have et2 := tab_lit d2 hd2
        go_wp2_with fail
        refine wp_loop_rounds 4 ?_
        rw [rounds_succ]
        go_wp2_with (at_builtin; refine wpList_append_own _ rfl _ _ 50 rfl w.heap.size 5 i0 (.int .u8 0) 1 1 Tryd.underlying50 hi hz0 hz1 hz2 rfl (by decide) _ _ _ rfl (hown.alloc _) ⟨wr.heap.size, 0, none⟩ 1 1 [.int .u8 ((b64Dig d0).toNat : Int)] rfl rfl (cell_one_new _ _ _) (by intro u hu; simp at hu; subst hu; rfl) (by unfold maxLen; simp; omega) (by simp; omega) (by have := hbr.size; simp; omega) ?_; intro v0 w0 ho0 hg0 _)
        have hb0 : Below w.heap.size w w0 := (hbr.alloc (hbr.size) _).grown hg0 (by have := hbr.size; simp; omega) (fun q hq => (hown.lt q hq).1)
        have hw0 := own_snoc ho0
        clear ho0 hg0
        go_wp2_with fail
        rw [rounds_succ]
        go_wp2_with (at_builtin; refine wpList_append_own _ rfl _ _ 50 rfl w.heap.size 5 i0 (.int .u8 0) 1 1 Tryd.underlying50 hi hz0 hz1 hz2 rfl (by decide) _ _ _ rfl (hw0.alloc _) ⟨w0.heap.size, 0, none⟩ 1 1 [.int .u8 ((b64Dig d1).toNat : Int)] rfl rfl (cell_one_new _ _ _) (by intro u hu; simp at hu; subst hu; rfl) (by unfold maxLen; simp; omega) (by simp; omega) (by have := hb0.size; simp; omega) ?_; intro v1 w1 ho1 hg1 _)
        have hb1 : Below w.heap.size w w1 := (hb0.alloc (hb0.size) _).grown hg1 (by have := hb0.size; simp; omega) (fun q hq => (hw0.lt q hq).1)
        have hw1 := own_snoc ho1
        clear ho1 hg1
        go_wp2_with fail
        rw [rounds_succ]
        go_wp2_with (at_builtin; refine wpList_append_own _ rfl _ _ 50 rfl w.heap.size 5 i0 (.int .u8 0) 1 1 Tryd.underlying50 hi hz0 hz1 hz2 rfl (by decide) _ _ _ rfl (hw1.alloc _) ⟨w1.heap.size, 0, none⟩ 1 1 [.int .u8 ((b64Dig d2).toNat : Int)] rfl rfl (cell_one_new _ _ _) (by intro u hu; simp at hu; subst hu; rfl) (by unfold maxLen; simp; omega) (by simp; omega) (by have := hb1.size; simp; omega) ?_; intro v2 w2 ho2 hg2 _)
        have hb2 : Below w.heap.size w w2 := (hb1.alloc (hb1.size) _).grown hg2 (by have := hb1.size; simp; omega) (fun q hq => (hw1.lt q hq).1)
        have hw2 := own_snoc ho2
        clear ho2 hg2
        go_wp2_with fail
        rw [rounds_succ]
        go_wp2_with fail
        have hP := Lib.hid (r_two H1.out HAk.out HB.out HD0.out HD1.out HD2.out HP.out)
        exact ⟨⟨k + 3, pre ++ [b64Dig d0] ++ [b64Dig d1] ++ [b64Dig d2], by omega, by go_num, by simpa using hw2, hP, by simp; omega, hb2⟩, by simp [intOf]; omega⟩
      · have hn1 : k + 1 < s.size := by omega
        obtain ⟨b, hb⟩ : ∃ b, s[k + 1].toNat = b := ⟨_, rfl⟩
        have hbl : b < 256 := hb ▸ s[k + 1].toNat_lt
        have HB := Lib.hid hb
        obtain ⟨c, hc⟩ : ∃ c, s[k + 2].toNat = c := ⟨_, rfl⟩
        have hcl : c < 256 := hc ▸ s[k + 2].toNat_lt
        have HC := Lib.hid hc
        have H1 := Lib.hid h3
        obtain ⟨d0, HD0⟩ : ∃ d0, Hid (a / 4 = d0) := ⟨_, Lib.hid rfl⟩
        have hd0 : d0 < 64 := by have := HD0.out; omega
        have ed0 : ((a : Int) * 65536 + (b : Int) * 256 + (c : Int)) / 262144 % 64 = (d0 : Int) := by have := HD0.out; omega
        have et0 := tab_lit d0 hd0
        obtain ⟨d1, HD1⟩ : ∃ d1, Hid (a % 4 * 16 + b / 16 = d1) := ⟨_, Lib.hid rfl⟩
        have hd1 : d1 < 64 := by have := HD1.out; omega
        have ed1 : ((a : Int) * 65536 + (b : Int) * 256 + (c : Int)) / 4096 % 64 = (d1 : Int) := by have := HD1.out; omega
        have et1 := tab_lit d1 hd1
        obtain ⟨d2, HD2⟩ : ∃ d2, Hid (b % 16 * 4 + c / 64 = d2) := ⟨_, Lib.hid rfl⟩
        have hd2 : d2 < 64 := by have := HD2.out; omega
        have ed2 : ((a : Int) * 65536 + (b : Int) * 256 + (c : Int)) / 64 % 64 = (d2 : Int) := by have := HD2.out; omega
        have et2 := tab_lit d2 hd2
        obtain ⟨d3, HD3⟩ : ∃ d3, Hid (c % 64 = d3) := ⟨_, Lib.hid rfl⟩
        have hd3 : d3 < 64 := by have := HD3.out; omega
        have ed3 : ((a : Int) * 65536 + (b : Int) * 256 + (c : Int)) % 64 = (d3 : Int) := by have := HD3.out; omega
        have et3 := tab_lit d3 hd3
        go_wp2_with fail
        refine wp_loop_rounds 5 ?_
        rw [rounds_succ]
        go_wp2_with (at_builtin; refine wpList_append_own _ rfl _ _ 50 rfl w.heap.size 5 i0 (.int .u8 0) 1 1 Tryd.underlying50 hi hz0 hz1 hz2 rfl (by decide) _ _ _ rfl (hown.alloc _) ⟨wr.heap.size, 0, none⟩ 1 1 [.int .u8 ((b64Dig d0).toNat : Int)] rfl rfl (cell_one_new _ _ _) (by intro u hu; simp at hu; subst hu; rfl) (by unfold maxLen; simp; omega) (by simp; omega) (by have := hbr.size; simp; omega) ?_; intro v0 w0 ho0 hg0 _)
        have hb0 : Below w.heap.size w w0 := (hbr.alloc (hbr.size) _).grown hg0 (by have := hbr.size; simp; omega) (fun q hq => (hown.lt q hq).1)
        have hw0 := own_snoc ho0
        clear ho0 hg0
        go_wp2_with fail
        rw [rounds_succ]
        go_wp2_with (at_builtin; refine wpList_append_own _ rfl _ _ 50 rfl w.heap.size 5 i0 (.int .u8 0) 1 1 Tryd.underlying50 hi hz0 hz1 hz2 rfl (by decide) _ _ _ rfl (hw0.alloc _) ⟨w0.heap.size, 0, none⟩ 1 1 [.int .u8 ((b64Dig d1).toNat : Int)] rfl rfl (cell_one_new _ _ _) (by intro u hu; simp at hu; subst hu; rfl) (by unfold maxLen; simp; omega) (by simp; omega) (by have := hb0.size; simp; omega) ?_; intro v1 w1 ho1 hg1 _)
        have hb1 : Below w.heap.size w w1 := (hb0.alloc (hb0.size) _).grown hg1 (by have := hb0.size; simp; omega) (fun q hq => (hw0.lt q hq).1)
        have hw1 := own_snoc ho1
        clear ho1 hg1
        go_wp2_with fail
        rw [rounds_succ]
        go_wp2_with (at_builtin; refine wpList_append_own _ rfl _ _ 50 rfl w.heap.size 5 i0 (.int .u8 0) 1 1 Tryd.underlying50 hi hz0 hz1 hz2 rfl (by decide) _ _ _ rfl (hw1.alloc _) ⟨w1.heap.size, 0, none⟩ 1 1 [.int .u8 ((b64Dig d2).toNat : Int)] rfl rfl (cell_one_new _ _ _) (by intro u hu; simp at hu; subst hu; rfl) (by unfold maxLen; simp; omega) (by simp; omega) (by have := hb1.size; simp; omega) ?_; intro v2 w2 ho2 hg2 _)
        have hb2 : Below w.heap.size w w2 := (hb1.alloc (hb1.size) _).grown hg2 (by have := hb1.size; simp; omega) (fun q hq => (hw1.lt q hq).1)
        have hw2 := own_snoc ho2
        clear ho2 hg2
        go_wp2_with fail
        rw [rounds_succ]
        go_wp2_with (at_builtin; refine wpList_append_own _ rfl _ _ 50 rfl w.heap.size 5 i0 (.int .u8 0) 1 1 Tryd.underlying50 hi hz0 hz1 hz2 rfl (by decide) _ _ _ rfl (hw2.alloc _) ⟨w2.heap.size, 0, none⟩ 1 1 [.int .u8 ((b64Dig d3).toNat : Int)] rfl rfl (cell_one_new _ _ _) (by intro u hu; simp at hu; subst hu; rfl) (by unfold maxLen; simp; omega) (by simp; omega) (by have := hb2.size; simp; omega) ?_; intro v3 w3 ho3 hg3 _)
        have hb3 : Below w.heap.size w w3 := (hb2.alloc (hb2.size) _).grown hg3 (by have := hb2.size; simp; omega) (fun q hq => (hw2.lt q hq).1)
        have hw3 := own_snoc ho3
        clear ho3 hg3
        go_wp2_with fail
        rw [rounds_succ]
        go_wp2_with fail
        have hP := Lib.hid (r_three H1.out HAk.out HB.out HC.out HD0.out HD1.out HD2.out HD3.out HP.out)
        exact ⟨⟨k + 3, pre ++ [b64Dig d0] ++ [b64Dig d1] ++ [b64Dig d2] ++ [b64Dig d3], by omega, by go_num, by simpa using hw3, hP, by simp; omega, hb3⟩, by simp [intOf]; omega⟩
    · have HE := Lib.hid (b64_end0 hlt HP.out)
      have hcv := conv_own hown
      go_wp2_with fail
      go_ret
      exact ⟨ret_str HE.out, hbr⟩
end Go.Proofs.YtnkblimmlkidcaaDoor
