/- codec.Base64 computes b64S; codec.ReadBase64 reads it. -/
import Derived.Test.YtnkblimmlkidcaaDoorBuilder
import Derived.Test.YtnkblimmlkidcaaDoorCodPlain
import Derived.Test.YtnkblimmlkidcaaDoorDigPlain
import Derived.Outline
import Derived.Laws.BitsAllLaws
namespace Go.Proofs.YtnkblimmlkidcaaDoor
open Go.RowKit

theorem wraps_i64 (n : Int) (h0 : 0 ≤ n) (h1 : n < 2 ^ 62) : IntKind.i64.wrap n = n := by rw [IntKind.wrap_i64]; omega
theorem i64_and63 (x : Int) (h0 : 0 ≤ x) (h1 : x < 1000000000000) : bits .and .i64 x 63 = x % 64 := bits_mask .i64 62 (by decide) wraps_i64 6 (by decide) x h0 (by omega)
theorem i64_and3 (x : Int) (h0 : 0 ≤ x) (h1 : x < 1000000000000) : bits .and .i64 x 3 = x % 4 := bits_mask .i64 62 (by decide) wraps_i64 2 (by decide) x h0 (by omega)
theorem i64_and15 (x : Int) (h0 : 0 ≤ x) (h1 : x < 1000000000000) : bits .and .i64 x 15 = x % 16 := bits_mask .i64 62 (by decide) wraps_i64 4 (by decide) x h0 (by omega)
theorem i64_and0 (x : Int) (h0 : 0 ≤ x) (h1 : x < 1000000000000) : bits .and .i64 x 0 = 0 := by
  have := bits_mask .i64 62 (by decide) wraps_i64 0 (by decide) x h0 (by omega)
  simpa using this
theorem wrap_small (c : Nat) (h : c < 1000000000000) : wrap64 (c : Int) = c := by unfold wrap64; omega
theorem or_byte (x : Int) (c : Nat) (h0 : 0 ≤ x) (hx : x < 1000000) (hc : c < 256) : bits .or .i64 (x * 256) (c : Int) = x * 256 + c := by
  exact bits_join .i64 62 (by decide) wraps_i64 8 (x * 256) (c : Int) (by omega) (by omega) (by omega) (by omega) (by omega) (by omega)
theorem or_six (x c : Int) (h0 : 0 ≤ x) (hx : x < 1000000) (hc0 : 0 ≤ c) (hc : c < 64) : bits .or .i64 (x * 64) c = x * 64 + c :=
  bits_join .i64 62 (by decide) wraps_i64 6 (x * 64) c (by omega) (by omega) (by omega) (by omega) (by omega) (by omega)
/-- The letters. -/
def b64Tab : ByteArray := ⟨#[65, 66, 67, 68, 69, 70, 71, 72, 73, 74, 75, 76, 77, 78, 79, 80, 81, 82, 83, 84, 85, 86, 87, 88, 89, 90, 97, 98, 99, 100, 101, 102, 103, 104, 105, 106, 107, 108, 109, 110, 111, 112, 113, 114, 115, 116, 117, 118, 119, 120, 121, 122, 48, 49, 50, 51, 52, 53, 54, 55, 56, 57, 45, 95]⟩
theorem b64Tab_at (d : Nat) (h : d < 64) : b64Tab.data.toList[d]? = some (b64Dig d) := by
  have : ∀ d : Fin 64, b64Tab.data.toList[d.1]? = some (b64Dig d.1) := by decide +kernel
  exact this ⟨d, h⟩

theorem b64Tab_el (d : Nat) (h : d < 64) (h' : d < b64Tab.size) : b64Tab[d] = b64Dig d := by
  have := b64Tab_at d h
  rw [List.getElem?_eq_getElem (by simpa using h')] at this
  exact Option.some.inj this
theorem drop_cons (s : ByteArray) (k : Nat) (h : k < s.size) : s.data.toList.drop k = s[k] :: s.data.toList.drop (k + 1) :=
  List.drop_eq_getElem_cons (by simpa using h)
theorem b64_step0 {s : ByteArray} {k c d y : Nat} {pre L : List UInt8} (hk : k < s.size) (hc : s[k].toNat = c) (hd : c / 4 = d) (hy : c % 4 = y) (HP : pre ++ b64E (s.data.toList.drop k) 0 0 = L) :
    (pre ++ [b64Dig d]) ++ b64E (s.data.toList.drop (k + 1)) 2 y = L := by
  rw [drop_cons s k hk, b64E, hc, hd, hy] at HP
  rw [← HP]; simp
theorem b64_step2 {s : ByteArray} {k c d y x : Nat} {pre L : List UInt8} (hk : k < s.size) (hc : s[k].toNat = c) (hd : x * 16 + c / 16 = d) (hy : c % 16 = y) (HP : pre ++ b64E (s.data.toList.drop k) 2 x = L) :
    (pre ++ [b64Dig d]) ++ b64E (s.data.toList.drop (k + 1)) 4 y = L := by
  rw [drop_cons s k hk, b64E, hc, hd, hy] at HP
  rw [← HP]; simp
theorem b64_step4 {s : ByteArray} {k c d y x : Nat} {pre L : List UInt8} (hk : k < s.size) (hc : s[k].toNat = c) (hd : x * 4 + c / 64 = d) (hy : c % 64 = y) (HP : pre ++ b64E (s.data.toList.drop k) 4 x = L) :
    (pre ++ [b64Dig d] ++ [b64Dig y]) ++ b64E (s.data.toList.drop (k + 1)) 0 0 = L := by
  rw [drop_cons s k hk, b64E, hc, hd, hy] at HP
  · rw [← HP]; simp
  all_goals omega
theorem b64_end0 {s : ByteArray} {k : Nat} {pre : List UInt8} (hk : ¬ k < s.size) (HP : pre ++ b64E (s.data.toList.drop k) 0 0 = b64L s.data.toList) : (⟨pre.toArray⟩ : ByteArray) = b64S s := by
  rw [List.drop_of_length_le (by simp; have : s.size = s.data.size := rfl; omega), b64E, List.append_nil] at HP
  rw [b64S, ← HP]
theorem b64_end2 {s : ByteArray} {k x d : Nat} {pre : List UInt8} (hk : ¬ k < s.size) (hd : x * 16 = d) (HP : pre ++ b64E (s.data.toList.drop k) 2 x = b64L s.data.toList) : (⟨(pre ++ [b64Dig d]).toArray⟩ : ByteArray) = b64S s := by
  rw [List.drop_of_length_le (by simp; have : s.size = s.data.size := rfl; omega), b64E, hd] at HP
  rw [b64S, ← HP]
theorem b64_end4 {s : ByteArray} {k x d : Nat} {pre : List UInt8} (hk : ¬ k < s.size) (hd : x * 4 = d) (HP : pre ++ b64E (s.data.toList.drop k) 4 x = b64L s.data.toList) : (⟨(pre ++ [b64Dig d]).toArray⟩ : ByteArray) = b64S s := by
  rw [List.drop_of_length_le (by simp; have : s.size = s.data.size := rfl; omega), b64E, hd] at HP
  · rw [b64S, ← HP]
  all_goals omega

set_option maxHeartbeats 2000000 in
theorem base64_any (s : ByteArray) (w : World) (hs : s.size ≤ 1000000000) :
    Calls Tryd.prog 32 #[.string s] w fun e w' => e = .returned (.string (b64S s)) ∧ Below w.heap.size w w' := by
  go_enter Tryd.func32, Tryd.ntmps32
  go_wp2
  go_loopw [4, 5, 6, 9] (fun bits n _ j wr => ∃ (k N x : Nat) (pre : List UInt8), k ≤ s.size ∧ j = .int .i64 k ∧ n = .int .i64 N ∧ bits = .int .i64 x ∧ ((N = 0 ∧ x = 0) ∨ (N = 2 ∧ x < 4) ∨ (N = 4 ∧ x < 16)) ∧ Bld w.heap.size w.heap.size pre wr ∧ Hid (pre ++ b64E (s.data.toList.drop k) N x = b64L s.data.toList) ∧ pre.length ≤ 2 * k ∧ Below w.heap.size w wr) (fun _ _ _ i _ => s.size - (intOf i).toNat)
  case atStart => exact ⟨0, 0, 0, [], Nat.zero_le _, rfl, rfl, rfl, .inl ⟨rfl, rfl⟩, Bld.fresh w, Lib.hid rfl, Nat.zero_le _, (Below.refl _ _).alloc (Nat.le_refl _) _⟩
  case round =>
    obtain ⟨k, N, x, pre, hk, rfl, rfl, rfl, hcs, hB, HP, hpl, hbr⟩ := hrel
    by_cases hlt : k < s.size
    · obtain ⟨c, hc⟩ : ∃ c, s[k].toNat = c := ⟨_, rfl⟩
      have HC := Lib.hid hc
      have hcl : c < 256 := hc ▸ s[k].toNat_lt
      rcases hcs with ⟨rfl, rfl⟩ | ⟨rfl, hx⟩ | ⟨rfl, hx⟩
      · have eor : bits BinOp.or IntKind.i64 0 (c : Int) = c := by simpa using or_byte 0 c (by omega) (by omega) hcl
        obtain ⟨d, HD⟩ : ∃ d, Hid (c / 4 = d) := ⟨_, Lib.hid rfl⟩
        have hdl : d < 64 := by have := HD.out; omega
        have eand : bits BinOp.and IntKind.i64 ((c : Int) / 4) 63 = (d : Int) := by rw [i64_and63 _ (by omega) (by omega)]; have := HD.out; omega
        obtain ⟨y, HY⟩ : ∃ y, Hid (c % 4 = y) := ⟨_, Lib.hid rfl⟩
        have hyl : y < 4 := by have := HY.out; omega
        have emask : bits BinOp.and IntKind.i64 (c : Int) 3 = (y : Int) := by rw [i64_and3 _ (by omega) (by omega)]; have := HY.out; omega
        go_wp2_with fail
        refine wp_loop_rounds 2 ?_
        rw [rounds_succ]
        go_wp2_with fail
        refine (writeByte_any _ _ pre _ _ hB (by omega) hbr.size).mono ?_
        rintro e w1 ⟨rfl, hB1, hb1⟩
        go_wp2_with fail
        rw [rounds_succ]
        go_wp2_with fail
        have ed : b64Tab[d]'hdl = b64Dig d := b64Tab_el d hdl hdl
        have hP := b64_step0 hlt HC.out HD.out HY.out HP.out
        rw [← ed] at hP
        exact ⟨⟨k + 1, 2, y, pre ++ [b64Tab[d]'hdl], by omega, by go_num, rfl, rfl, .inr (.inl ⟨rfl, hyl⟩), hB1, Lib.hid hP, by simp; omega, hbr.trans hb1⟩, by simp [intOf]; omega⟩
      · obtain ⟨z, HZ⟩ : ∃ z, Hid (x * 256 + c = z) := ⟨_, Lib.hid rfl⟩
        have hzl : z < 1024 := by have := HZ.out; omega
        have eor : bits BinOp.or IntKind.i64 ((x : Int) * 256) (c : Int) = (z : Int) := by rw [or_byte x c (by omega) (by omega) hcl]; have := HZ.out; omega
        obtain ⟨d, HD⟩ : ∃ d, Hid (z / 16 = d) := ⟨_, Lib.hid rfl⟩
        have hdl : d < 64 := by have := HD.out; omega
        have eand : bits BinOp.and IntKind.i64 ((z : Int) / 16) 63 = (d : Int) := by rw [i64_and63 _ (by omega) (by omega)]; have := HD.out; omega
        obtain ⟨y, HY⟩ : ∃ y, Hid (z % 16 = y) := ⟨_, Lib.hid rfl⟩
        have hyl : y < 16 := by have := HY.out; omega
        have emask : bits BinOp.and IntKind.i64 (z : Int) 15 = (y : Int) := by rw [i64_and15 _ (by omega) (by omega)]; have := HY.out; omega
        clear hzl
        have hz0 : 0 ≤ (z : Int) := by omega
        go_wp2_with fail
        refine wp_loop_rounds 2 ?_
        rw [rounds_succ]
        go_wp2_with fail
        refine (writeByte_any _ _ pre _ _ hB (by omega) hbr.size).mono ?_
        rintro e w1 ⟨rfl, hB1, hb1⟩
        go_wp2_with fail
        rw [rounds_succ]
        go_wp2_with fail
        have ed : b64Tab[d]'hdl = b64Dig d := b64Tab_el d hdl hdl
        have hP := b64_step2 (d := d) (y := y) hlt HC.out (by have := HD.out; have := HZ.out; have : c < 256 := HC.out ▸ s[k].toNat_lt; omega) (by have := HY.out; have := HZ.out; omega) HP.out
        rw [← ed] at hP
        exact ⟨⟨k + 1, 4, y, pre ++ [b64Tab[d]'hdl], by omega, by go_num, rfl, rfl, .inr (.inr ⟨rfl, hyl⟩), hB1, Lib.hid hP, by simp; omega, hbr.trans hb1⟩, by simp [intOf]; omega⟩
      · obtain ⟨z, HZ⟩ : ∃ z, Hid (x * 256 + c = z) := ⟨_, Lib.hid rfl⟩
        have hzl : z < 4096 := by have := HZ.out; omega
        have eor : bits BinOp.or IntKind.i64 ((x : Int) * 256) (c : Int) = (z : Int) := by rw [or_byte x c (by omega) (by omega) hcl]; have := HZ.out; omega
        obtain ⟨d, HD⟩ : ∃ d, Hid (z / 64 = d) := ⟨_, Lib.hid rfl⟩
        have hdl : d < 64 := by have := HD.out; omega
        have eand : bits BinOp.and IntKind.i64 ((z : Int) / 64) 63 = (d : Int) := by rw [i64_and63 _ (by omega) (by omega)]; have := HD.out; omega
        obtain ⟨y, HY⟩ : ∃ y, Hid (z % 64 = y) := ⟨_, Lib.hid rfl⟩
        have hyl : y < 64 := by have := HY.out; omega
        have eand2 : bits BinOp.and IntKind.i64 (z : Int) 63 = (y : Int) := by rw [i64_and63 _ (by omega) (by omega)]; have := HY.out; omega
        have emask : bits BinOp.and IntKind.i64 (z : Int) 0 = 0 := i64_and0 _ (by omega) (by omega)
        clear hzl
        have hz0 : 0 ≤ (z : Int) := by omega
        go_wp2_with fail
        refine wp_loop_rounds 3 ?_
        rw [rounds_succ]
        go_wp2_with fail
        refine (writeByte_any _ _ pre _ _ hB (by omega) hbr.size).mono ?_
        rintro e w1 ⟨rfl, hB1, hb1⟩
        go_wp2_with fail
        rw [rounds_succ]
        go_wp2_with fail
        refine (writeByte_any _ _ _ _ _ hB1 (by simp; omega) (Nat.le_trans hbr.size hb1.size)).mono ?_
        rintro e w2 ⟨rfl, hB2, hb2⟩
        go_wp2_with fail
        rw [rounds_succ]
        go_wp2_with fail
        have ed : b64Tab[d]'hdl = b64Dig d := b64Tab_el d hdl hdl
        have ey : b64Tab[y]'hyl = b64Dig y := b64Tab_el y hyl hyl
        have hP := b64_step4 (d := d) (y := y) hlt HC.out (by have := HD.out; have := HZ.out; have : c < 256 := HC.out ▸ s[k].toNat_lt; omega) (by have := HY.out; have := HZ.out; omega) HP.out
        rw [← ed, ← ey] at hP
        exact ⟨⟨k + 1, 0, 0, pre ++ [b64Tab[d]'hdl] ++ [b64Tab[y]'hyl], by omega, by go_num, rfl, rfl, .inl ⟨rfl, rfl⟩, hB2, Lib.hid hP, by simp; omega, (hbr.trans hb1).trans hb2⟩, by simp [intOf]; omega⟩
    · rcases hcs with ⟨rfl, rfl⟩ | ⟨rfl, hx⟩ | ⟨rfl, hx⟩
      · go_wp2_with fail
        refine (bldString_any _ _ pre _ hB hbr.size).mono ?_
        rintro e w1 ⟨rfl, hb1⟩
        go_wp2_with fail
        go_ret
        exact ⟨ret_str (b64_end0 hlt HP.out), hbr.trans hb1⟩
      · obtain ⟨d, HD⟩ : ∃ d, Hid (x * 16 = d) := ⟨_, Lib.hid rfl⟩
        have hdl : d < 64 := by have := HD.out; omega
        have eand : bits BinOp.and IntKind.i64 ((x : Int) * 16) 63 = (d : Int) := by rw [i64_and63 _ (by omega) (by omega)]; have := HD.out; omega
        go_wp2_with fail
        refine (writeByte_any _ _ pre _ _ hB (by omega) hbr.size).mono ?_
        rintro e w1 ⟨rfl, hB1, hb1⟩
        go_wp2_with fail
        refine (bldString_any _ _ _ _ hB1 (Nat.le_trans hbr.size hb1.size)).mono ?_
        rintro e w2 ⟨rfl, hb2⟩
        go_wp2_with fail
        go_ret
        have ed : b64Tab[d]'hdl = b64Dig d := b64Tab_el d hdl hdl
        have hE := b64_end2 hlt HD.out HP.out
        rw [← ed] at hE
        exact ⟨ret_str hE, (hbr.trans hb1).trans hb2⟩
      · obtain ⟨d, HD⟩ : ∃ d, Hid (x * 4 = d) := ⟨_, Lib.hid rfl⟩
        have hdl : d < 64 := by have := HD.out; omega
        have eand : bits BinOp.and IntKind.i64 ((x : Int) * 4) 63 = (d : Int) := by rw [i64_and63 _ (by omega) (by omega)]; have := HD.out; omega
        go_wp2_with fail
        refine (writeByte_any _ _ pre _ _ hB (by omega) hbr.size).mono ?_
        rintro e w1 ⟨rfl, hB1, hb1⟩
        go_wp2_with fail
        refine (bldString_any _ _ _ _ hB1 (Nat.le_trans hbr.size hb1.size)).mono ?_
        rintro e w2 ⟨rfl, hb2⟩
        go_wp2_with fail
        go_ret
        have ed : b64Tab[d]'hdl = b64Dig d := b64Tab_el d hdl hdl
        have hE := b64_end4 hlt HD.out HP.out
        rw [← ed] at hE
        exact ⟨ret_str hE, (hbr.trans hb1).trans hb2⟩
end Go.Proofs.YtnkblimmlkidcaaDoor
