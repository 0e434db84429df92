/- identityref02.ReadBase64 reads what b64S writes, and nothing else. -/
import Derived.Test.YtnkblimmlkidcaaDoorCodRR64P
import Derived.Test.YtnkblimmlkidcaaDoorCodFirst
namespace Go.Proofs.YtnkblimmlkidcaaDoor
open Go.RowKit

theorem rletter_none (c : UInt8) (w : World) (h : b64Val c = none) :
    Calls Tryd.prog 47 #[.string b64Tab, .int .u8 (c.toNat : Int)] w fun e w' => e = .returned (.int .i64 (-1)) ∧ w = w' := by
  refine (rfirst_any b64Tab c w (by decide +kernel)).mono ?_
  rintro e w' ⟨rfl, rfl⟩
  exact ⟨ret_int (by have := b64_index c; rw [h] at this; exact this), rfl⟩
theorem rletter_some (c : UInt8) (v : Nat) (w : World) (h : b64Val c = some v) :
    Calls Tryd.prog 47 #[.string b64Tab, .int .u8 (c.toNat : Int)] w fun e w' => e = .returned (.int .i64 (v : Int)) ∧ w = w' := by
  refine (rfirst_any b64Tab c w (by decide +kernel)).mono ?_
  rintro e w' ⟨rfl, rfl⟩
  exact ⟨ret_int (by have := b64_index c; rw [h] at this; exact this), rfl⟩
theorem valAt_in {s : ByteArray} {k t : Nat} {c : UInt8} (h : k + t < s.size) (hc : s[k + t] = c) : valAt (s.data.toList.drop k) t = b64Val c := by
  have e : (s.data.toList.drop k)[t]? = some c := by
    rw [List.getElem?_drop, List.getElem?_eq_getElem (by simpa using h)]
    exact congrArg some hc
  rw [valAt, e]
theorem valAt_end {s : ByteArray} {k t : Nat} (h : ¬ k + t < s.size) : valAt (s.data.toList.drop k) t = some 0 := by
  have e : (s.data.toList.drop k)[t]? = none := by
    rw [List.getElem?_drop, List.getElem?_eq_none (by simpa using h)]
  rw [valAt, e]
theorem acc_step {l : List UInt8} {t m v : Nat} (h : accO l t = some m) (hv : valAt l t = some v) : accO l (t + 1) = some (m * 64 + v) := by
  rw [accO, h, hv]; rfl
theorem acc_step0 {l : List UInt8} {t m : Nat} (h : accO l t = some m) (hv : valAt l t = some 0) : accO l (t + 1) = some (m * 64) := by
  have := acc_step h hv
  rwa [Nat.add_zero] at this
theorem pow64z {m t : Nat} (h : m < 64 ^ t) : m * 64 < 64 ^ (t + 1) := by
  rw [Nat.pow_succ]; omega
theorem drop_ne {s : ByteArray} {k : Nat} (h : k < s.size) : s.data.toList.drop k ≠ [] := by
  rw [drop_cons s k h]; simp
theorem lax_bad {s : ByteArray} {k t : Nat} {pre : List UInt8} (hk : k < s.size) (ht : t < 4) (hv : valAt (s.data.toList.drop k) t = none) (HP : (laxL (s.data.toList.drop k)).map (pre ++ ·) = laxL s.data.toList) : readB64O s = none := by
  rw [laxL_else (drop_ne hk), acc_none hv ht] at HP
  exact lax_none HP.symm
theorem lax_one {s : ByteArray} {k m : Nat} {pre : List UInt8} (hk : k + 1 = s.size) (hA : accO (s.data.toList.drop k) 4 = some m) (HP : (laxL (s.data.toList.drop k)).map (pre ++ ·) = laxL s.data.toList) : readB64O s = none := by
  rw [laxL_else (drop_ne (by omega)), hA, Option.bind_some, if_pos (by simp; have : s.size = s.data.size := rfl; omega)] at HP
  exact lax_none HP.symm
theorem lax_step {s : ByteArray} {k m q : Nat} {pre : List UInt8} (hk : k + 1 < s.size) (hq : q = min 4 (s.size - k)) (hA : accO (s.data.toList.drop k) 4 = some m) (HP : (laxL (s.data.toList.drop k)).map (pre ++ ·) = laxL s.data.toList) :
    (laxL (s.data.toList.drop (k + 4))).map ((pre ++ grpL m q) ++ ·) = laxL s.data.toList := by
  have hl : (s.data.toList.drop k).length = s.size - k := by simp
  rw [laxL_else (drop_ne (by omega)), hA, Option.bind_some, if_neg (by omega), hl, ← hq, List.drop_drop] at HP
  rw [← HP]
  cases laxL (s.data.toList.drop (k + 4)) <;> simp
theorem lax_end {s : ByteArray} {k : Nat} {pre : List UInt8} (hk : ¬ k < s.size) (HP : (laxL (s.data.toList.drop k)).map (pre ++ ·) = laxL s.data.toList) : laxL s.data.toList = some pre := by
  rw [List.drop_of_length_le (by simp; have : s.size = s.data.size := rfl; omega), laxL_nil] at HP
  rw [← HP]; simp
theorem pow64 {m t : Nat} (h : m < 64 ^ t) (ht : t < 4) : m < 262144 := by
  have := Nat.pow_le_pow_right (n := 64) (by omega) (show t ≤ 3 by omega)
  omega
theorem pow64s {m t v : Nat} (h : m < 64 ^ t) (hv : v < 64) : m * 64 + v < 64 ^ (t + 1) := by
  rw [Nat.pow_succ]; omega

set_option maxHeartbeats 4000000 in
set_option maxRecDepth 100000 in
theorem rreadb64_any (s : ByteArray) (w : World) (hs : s.size ≤ 1000000) :
    Calls Tryd.prog 34 #[.string s] w fun e w' => e = .returned (.tuple #[.string (readB64S s), .int .i64 (readB64Err s)]) ∧ Below w.heap.size w w' := by
  obtain ⟨i0, hi, hz0, hz1, hz2⟩ := info_parts info_byte
  go_enter Tryd.func34, Tryd.ntmps34
  go_wp2_with fail
  go_loopw [4, 5, 6, 7, 8, 9] (fun v i _ _ _ _ wr => ∃ (k : Nat) (pre : List UInt8), k ≤ s.size + 3 ∧ i = .int .i64 k ∧ wr.ownsRow w.heap.size 5 1 v pre.length (Lib.byteCells pre) ∧ Hid ((laxL (s.data.toList.drop k)).map (pre ++ ·) = laxL s.data.toList) ∧ pre.length ≤ k ∧ Below w.heap.size w wr) (fun _ i _ _ _ _ _ => s.size + 3 - (intOf i).toNat)
  case atStart => exact ⟨0, [], by omega, rfl, World.ownsRow_nil _ _ _ _, Lib.hid (by simp), Nat.zero_le _, Below.refl _ _⟩
  case round =>
    obtain ⟨k, pre, hk, rfl, hown, HP, hpl, hbr⟩ := hrel
    by_cases hlt : k < s.size
    · obtain ⟨wo, rfl⟩ : ∃ wo : World, wo = wr := ⟨_, rfl⟩
      go_wp2_with fail
      go_loop [6, 7, 8, 9] (fun n kk j _ => ∃ t q m : Nat, t ≤ 4 ∧ j = .int .i64 t ∧ kk = .int .i64 q ∧ n = .int .i64 m ∧ q ≤ t ∧ Hid (q = min t (s.size - k)) ∧ m < 16777216 ∧ Hid (m < 64 ^ t) ∧ Hid (accO (s.data.toList.drop k) t = some m)) (fun _ _ j _ => 4 - (intOf j).toNat)
      case atStart => exact ⟨0, 0, 0, by omega, rfl, rfl, rfl, by omega, Lib.hid (by omega), by omega, Lib.hid (by decide), Lib.hid rfl⟩
      case round =>
        obtain ⟨t, q, m, ht, rfl, rfl, rfl, hqt, HQ, hm, HM, HA⟩ := hrel
        by_cases ht4 : t < 4
        · have hm3 := pow64 HM.out ht4
          by_cases hkt : k + t < s.size
          · obtain ⟨c, hc⟩ : ∃ c, s[k + t] = c := ⟨_, rfl⟩
            have HC := Lib.hid hc
            cases hv : b64Val c with
            | none =>
              have hG := Lib.hid (read_bad (lax_bad hlt ht4 ((valAt_in hkt HC.out).trans hv) HP.out))
              have HV := Lib.hid hv
              clear hv
              go_wp2_with fail
              refine (rletter_none c _ HV.out).mono ?_
              rintro e w1 ⟨rfl, rfl⟩
              go_wp2_with fail
              go_ret2
              exact ⟨ret_se hG.out.1.symm hG.out.2.symm, hbr⟩
            | some v =>
              have hvl := b64Val_lt hv
              have HA1 := Lib.hid (acc_step HA.out ((valAt_in hkt HC.out).trans hv))
              have HV := Lib.hid hv
              clear hv
              go_wp2_with fail
              refine (rletter_some c v _ HV.out).mono ?_
              rintro e w1 ⟨rfl, rfl⟩
              go_wp2_with fail
              go_round
              case rel => exact ⟨t + 1, q + 1, m * 64 + v, by omega, by go_num, by go_num, by go_num, by omega, Lib.hid (by have := HQ.out; omega), by omega, Lib.hid (pow64s HM.out hvl), HA1⟩
              case measure => simp [intOf]; omega
          · have HA1 := Lib.hid (acc_step0 HA.out (valAt_end hkt))
            have HM1 := Lib.hid (pow64z HM.out)
            go_wp2_with fail
            go_round
            case rel => exact ⟨t + 1, q, m * 64, by omega, by go_num, rfl, by go_num, by omega, Lib.hid (by have := HQ.out; omega), by omega, HM1, HA1⟩
            case measure => simp [intOf]; omega
        · obtain rfl : t = 4 := by omega
          have hcs : k + 1 = s.size ∨ k + 2 = s.size ∨ k + 3 = s.size ∨ k + 3 < s.size := by omega
          obtain ⟨c0, HC0⟩ : ∃ c0, Hid (UInt8.ofNat (m / 65536) = c0) := ⟨_, Lib.hid rfl⟩
          obtain ⟨c1, HC1⟩ : ∃ c1, Hid (UInt8.ofNat (m / 256 % 256) = c1) := ⟨_, Lib.hid rfl⟩
          obtain ⟨c2, HC2⟩ : ∃ c2, Hid (UInt8.ofNat (m % 256) = c2) := ⟨_, Lib.hid rfl⟩
          have h0 := c0.toNat_lt
          have h1 := c1.toNat_lt
          have h2 := c2.toNat_lt
          have e0 : (m : Int) / 65536 = (c0.toNat : Int) := by rw [← HC0.out]; simp; omega
          have e1 : (m : Int) / 256 % 256 = (c1.toNat : Int) := by rw [← HC1.out]; simp
          have e2 : (m : Int) % 256 = (c2.toNat : Int) := by rw [← HC2.out]; simp
          have HG : Hid (grpL m q = [c0] ++ ((if 2 < q then [c1] else []) ++ (if 3 < q then [c2] else []))) := by show _ = _; rw [grpL, HC0.out, HC1.out, HC2.out]; rfl
          rcases hcs with hr | hr | hr | hr
          · obtain rfl : q = 1 := by have := HQ.out; omega
            have hG := Lib.hid (read_bad (lax_one hr HA.out HP.out))
            have HR := Lib.hid hr
            clear hr
            go_wp2_with fail
            go_ret2
            exact ⟨ret_se hG.out.1.symm hG.out.2.symm, hbr⟩
          · obtain rfl : q = 2 := by have := HQ.out; omega
            have HP1 := Lib.hid (lax_step (by omega) HQ.out HA.out HP.out)
            have HR := Lib.hid hr
            have hk3 : k + 2 ≤ s.size := by omega
            clear hr
            go_wp2_with (at_builtin; refine wpList_append_own _ rfl _ _ 50 rfl w.heap.size 5 i0 (.int .u8 0) 1 1 Tryd.underlying50 hi hz0 hz1 hz2 rfl (by decide) _ _ _ rfl (hown.alloc _) ⟨wo.heap.size, 0, none⟩ 1 1 [.int .u8 (c0.toNat : Int)] rfl rfl (cell_one_new _ _ _) (by intro u hu; simp at hu; subst hu; rfl) (by unfold maxLen; omega) (by omega) (by have := hbr.size; simp; omega) ?_; intro v1 w1 ho1 hg1 _)
            have hb1 : Below w.heap.size w w1 := (hbr.alloc (hbr.size) _).grown hg1 (by have := hbr.size; simp; omega) (fun q hq => (hown.lt q hq).1)
            have hw1 := own_snoc ho1
            clear ho1 hg1
            go_wp2_with fail
            go_roundw
            case rel => exact ⟨k + 4, pre ++ [c0], by omega, by go_num, by simpa using hw1, Lib.hid (by have := HP1.out; rw [HG.out] at this; simpa using this), by simp; omega, hb1⟩
            case measure => simp [intOf]; omega
          · obtain rfl : q = 3 := by have := HQ.out; omega
            have HP1 := Lib.hid (lax_step (by omega) HQ.out HA.out HP.out)
            have HR := Lib.hid hr
            have hk3 : k + 3 ≤ s.size := by omega
            clear hr
            go_wp2_with (first | (at_builtin; refine wpList_append_own _ rfl _ _ 50 rfl w.heap.size 5 i0 (.int .u8 0) 1 1 Tryd.underlying50 hi hz0 hz1 hz2 rfl (by decide) _ _ _ rfl (hw1.alloc _) ⟨w1.heap.size, 0, none⟩ 1 1 [.int .u8 (c1.toNat : Int)] rfl rfl (cell_one_new _ _ _) (by intro u hu; simp at hu; subst hu; rfl) (by unfold maxLen; omega) (by omega) (by have := hb1.size; simp; omega) ?_; intro v2 w2 ho2 hg2 _; have hb2 : Below w.heap.size w w2 := (hb1.alloc (hb1.size) _).grown hg2 (by have := hb1.size; simp; omega) (fun q hq => (hw1.lt q hq).1); have hw2 := own_snoc ho2; clear ho2 hg2) | (at_builtin; refine wpList_append_own _ rfl _ _ 50 rfl w.heap.size 5 i0 (.int .u8 0) 1 1 Tryd.underlying50 hi hz0 hz1 hz2 rfl (by decide) _ _ _ rfl (hown.alloc _) ⟨wo.heap.size, 0, none⟩ 1 1 [.int .u8 (c0.toNat : Int)] rfl rfl (cell_one_new _ _ _) (by intro u hu; simp at hu; subst hu; rfl) (by unfold maxLen; omega) (by omega) (by have := hbr.size; simp; omega) ?_; intro v1 w1 ho1 hg1 _; have hb1 : Below w.heap.size w w1 := (hbr.alloc (hbr.size) _).grown hg1 (by have := hbr.size; simp; omega) (fun q hq => (hown.lt q hq).1); have hw1 := own_snoc ho1; clear ho1 hg1))
            go_roundw
            case rel => exact ⟨k + 4, pre ++ [c0] ++ [c1], by omega, by go_num, by simpa using hw2, Lib.hid (by have := HP1.out; rw [HG.out] at this; simpa using this), by simp; omega, hb2⟩
            case measure => simp [intOf]; omega
          · obtain rfl : q = 4 := by have := HQ.out; omega
            have HP1 := Lib.hid (lax_step (by omega) HQ.out HA.out HP.out)
            go_wp2_with (first | (at_builtin; refine wpList_append_own _ rfl _ _ 50 rfl w.heap.size 5 i0 (.int .u8 0) 1 1 Tryd.underlying50 hi hz0 hz1 hz2 rfl (by decide) _ _ _ rfl (hw2.alloc _) ⟨w2.heap.size, 0, none⟩ 1 1 [.int .u8 (c2.toNat : Int)] rfl rfl (cell_one_new _ _ _) (by intro u hu; simp at hu; subst hu; rfl) (by unfold maxLen; omega) (by omega) (by have := hb2.size; simp; omega) ?_; intro v3 w3 ho3 hg3 _; have hb3 : Below w.heap.size w w3 := (hb2.alloc (hb2.size) _).grown hg3 (by have := hb2.size; simp; omega) (fun q hq => (hw2.lt q hq).1); have hw3 := own_snoc ho3; clear ho3 hg3) | (at_builtin; refine wpList_append_own _ rfl _ _ 50 rfl w.heap.size 5 i0 (.int .u8 0) 1 1 Tryd.underlying50 hi hz0 hz1 hz2 rfl (by decide) _ _ _ rfl (hw1.alloc _) ⟨w1.heap.size, 0, none⟩ 1 1 [.int .u8 (c1.toNat : Int)] rfl rfl (cell_one_new _ _ _) (by intro u hu; simp at hu; subst hu; rfl) (by unfold maxLen; omega) (by omega) (by have := hb1.size; simp; omega) ?_; intro v2 w2 ho2 hg2 _; have hb2 : Below w.heap.size w w2 := (hb1.alloc (hb1.size) _).grown hg2 (by have := hb1.size; simp; omega) (fun q hq => (hw1.lt q hq).1); have hw2 := own_snoc ho2; clear ho2 hg2) | (at_builtin; refine wpList_append_own _ rfl _ _ 50 rfl w.heap.size 5 i0 (.int .u8 0) 1 1 Tryd.underlying50 hi hz0 hz1 hz2 rfl (by decide) _ _ _ rfl (hown.alloc _) ⟨wo.heap.size, 0, none⟩ 1 1 [.int .u8 (c0.toNat : Int)] rfl rfl (cell_one_new _ _ _) (by intro u hu; simp at hu; subst hu; rfl) (by unfold maxLen; omega) (by omega) (by have := hbr.size; simp; omega) ?_; intro v1 w1 ho1 hg1 _; have hb1 : Below w.heap.size w w1 := (hbr.alloc (hbr.size) _).grown hg1 (by have := hbr.size; simp; omega) (fun q hq => (hown.lt q hq).1); have hw1 := own_snoc ho1; clear ho1 hg1))
            go_roundw
            case rel => exact ⟨k + 4, pre ++ [c0] ++ [c1] ++ [c2], by omega, by go_num, by simpa using hw3, Lib.hid (by have := HP1.out; rw [HG.out] at this; simpa using this), by simp; omega, hb3⟩
            case measure => simp [intOf]; omega
    · have HE := Lib.hid (lax_end hlt HP.out)
      have hcv := conv_own hown
      have hz : (⟨pre.toArray⟩ : ByteArray).size ≤ 1000003 := by show pre.toArray.size ≤ _; simp; omega
      have HZ := Lib.hid hz
      clear hz
      generalize ht : (⟨pre.toArray⟩ : ByteArray) = t at hcv HZ
      have hrb := fun wq => rbase64_any t wq (by have := HZ.out; omega)
      by_cases hsame : b64S t = s
      · have hG := Lib.hid (read_good (s := s) (t := t) (by rw [← ht] at hsame ⊢; exact lax_same hsame))
        have hq2 : ((b64S t).toList == s.toList) = true := by rw [hsame]; simp
        have HT := Lib.hid ht
        clear hsame ht
        go_wp2_with fail
        refine (Calls.mono (hrb _) ?_)
        rintro e w1 ⟨rfl, hb1⟩
        have hcv1 := conv_own (own_below hown hb1)
        rw [HT.out] at hcv1
        clear hcv
        go_wp2_with fail
        go_ret2
        exact ⟨ret_se hG.out.1.symm hG.out.2.symm, bthen hbr hb1⟩
      · have hG := Lib.hid (read_bad (s := s) (by rw [← ht] at hsame; exact lax_other HE.out hsame))
        have hq := str_ne hsame
        clear hsame ht
        go_wp2_with fail
        refine (Calls.mono (hrb _) ?_)
        rintro e w1 ⟨rfl, hb1⟩
        go_wp2_with fail
        go_ret2
        exact ⟨ret_se hG.out.1.symm hG.out.2.symm, bthen hbr hb1⟩
end Go.Proofs.YtnkblimmlkidcaaDoor
