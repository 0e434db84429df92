/- Joined: CodRR64, RefWord, TokRSplit, ClmHas. -/
import Derived.Test.YtiiioefjdebggaaGreatDoorSeg5
import Derived.Test.YtiiioefjdebggaaGreatDoorSeg1
/- identityref02.ReadBase64 reads what b64S writes, and nothing else. -/
namespace Go.Proofs.YtiiioefjdebggaaGreatDoor
open Go.RowKit

theorem rletter_none (c : UInt8) (w : World) (h : b64Val c = none) :
    Calls Tryz.prog 116 #[.string b64Tab, .int .u8 (c.toNat : Int)] w fun e w' => e = .returned (.int .i64 (-1)) ∧ w = w' := by
  refine (rfirst_any b64Tab c w (by decide +kernel)).mono ?_
  rintro e w' ⟨rfl, rfl⟩
  exact ⟨ret_int (by have := b64_index c; rw [h] at this; exact this), rfl⟩
theorem rletter_some (c : UInt8) (v : Nat) (w : World) (h : b64Val c = some v) :
    Calls Tryz.prog 116 #[.string b64Tab, .int .u8 (c.toNat : Int)] w fun e w' => e = .returned (.int .i64 (v : Int)) ∧ w = w' := by
  refine (rfirst_any b64Tab c w (by decide +kernel)).mono ?_
  rintro e w' ⟨rfl, rfl⟩
  exact ⟨ret_int (by have := b64_index c; rw [h] at this; exact this), rfl⟩
theorem valAt_in {s : ByteArray} {k t : Nat} {c : UInt8} (h : k + t < s.size) (hc : s[k + t] = c) : valAt (s.data.toList.drop k) t = b64Val c := by
  have e : (s.data.toList.drop k)[t]? = some c := by
    rw [List.getElem?_drop, List.getElem?_eq_getElem (by simpa using h)]
    exact congrArg some hc
  rw [valAt, e]
theorem valAt_end {s : ByteArray} {k t : Nat} (h : ¬ k + t < s.size) : valAt (s.data.toList.drop k) t = some 0 := by
  have e : (s.data.toList.drop k)[t]? = none := by
    rw [List.getElem?_drop, List.getElem?_eq_none (by simpa using h)]
  rw [valAt, e]
theorem acc_step {l : List UInt8} {t m v : Nat} (h : accO l t = some m) (hv : valAt l t = some v) : accO l (t + 1) = some (m * 64 + v) := by
  rw [accO, h, hv]; rfl
theorem acc_step0 {l : List UInt8} {t m : Nat} (h : accO l t = some m) (hv : valAt l t = some 0) : accO l (t + 1) = some (m * 64) := by
  have := acc_step h hv
  rwa [Nat.add_zero] at this
theorem pow64z {m t : Nat} (h : m < 64 ^ t) : m * 64 < 64 ^ (t + 1) := by
  rw [Nat.pow_succ]; omega
theorem drop_ne {s : ByteArray} {k : Nat} (h : k < s.size) : s.data.toList.drop k ≠ [] := by
  rw [drop_cons s k h]; simp
theorem lax_bad {s : ByteArray} {k t : Nat} {pre : List UInt8} (hk : k < s.size) (ht : t < 4) (hv : valAt (s.data.toList.drop k) t = none) (HP : (laxL (s.data.toList.drop k)).map (pre ++ ·) = laxL s.data.toList) : readB64O s = none := by
  rw [laxL_else (drop_ne hk), acc_none hv ht] at HP
  exact lax_none HP.symm
theorem lax_one {s : ByteArray} {k m : Nat} {pre : List UInt8} (hk : k + 1 = s.size) (hA : accO (s.data.toList.drop k) 4 = some m) (HP : (laxL (s.data.toList.drop k)).map (pre ++ ·) = laxL s.data.toList) : readB64O s = none := by
  rw [laxL_else (drop_ne (by omega)), hA, Option.bind_some, if_pos (by simp; have : s.size = s.data.size := rfl; omega)] at HP
  exact lax_none HP.symm
theorem lax_step {s : ByteArray} {k m q : Nat} {pre : List UInt8} (hk : k + 1 < s.size) (hq : q = min 4 (s.size - k)) (hA : accO (s.data.toList.drop k) 4 = some m) (HP : (laxL (s.data.toList.drop k)).map (pre ++ ·) = laxL s.data.toList) :
    (laxL (s.data.toList.drop (k + 4))).map ((pre ++ grpL m q) ++ ·) = laxL s.data.toList := by
  have hl : (s.data.toList.drop k).length = s.size - k := by simp
  rw [laxL_else (drop_ne (by omega)), hA, Option.bind_some, if_neg (by omega), hl, ← hq, List.drop_drop] at HP
  rw [← HP]
  cases laxL (s.data.toList.drop (k + 4)) <;> simp
theorem lax_end {s : ByteArray} {k : Nat} {pre : List UInt8} (hk : ¬ k < s.size) (HP : (laxL (s.data.toList.drop k)).map (pre ++ ·) = laxL s.data.toList) : laxL s.data.toList = some pre := by
  rw [List.drop_of_length_le (by simp; have : s.size = s.data.size := rfl; omega), laxL_nil] at HP
  rw [← HP]; simp
theorem pow64 {m t : Nat} (h : m < 64 ^ t) (ht : t < 4) : m < 262144 := by
  have := Nat.pow_le_pow_right (n := 64) (by omega) (show t ≤ 3 by omega)
  omega
theorem pow64s {m t v : Nat} (h : m < 64 ^ t) (hv : v < 64) : m * 64 + v < 64 ^ (t + 1) := by
  rw [Nat.pow_succ]; omega

set_option maxHeartbeats 4000000 in
set_option maxRecDepth 100000 in
theorem rreadb64_any (s : ByteArray) (w : World) (hs : s.size ≤ 1000000) :
    Calls Tryz.prog 69 #[.string s] w fun e w' => e = .returned (.tuple #[.string (readB64S s), .int .i64 (readB64Err s)]) ∧ Below w.heap.size w w' := by
  obtain ⟨i0, hi, hz0, hz1, hz2⟩ := info_parts info_byte
  go_enter Tryz.func69, Tryz.ntmps69
  go_wp2_with fail
  go_loopw [4, 5, 6, 7, 8, 9] (fun v i _ _ _ _ wr => ∃ (k : Nat) (pre : List UInt8), k ≤ s.size + 3 ∧ i = .int .i64 k ∧ wr.ownsRow w.heap.size 5 1 v pre.length (Lib.byteCells pre) ∧ Hid ((laxL (s.data.toList.drop k)).map (pre ++ ·) = laxL s.data.toList) ∧ pre.length ≤ k ∧ Below w.heap.size w wr) (fun _ i _ _ _ _ _ => s.size + 3 - (intOf i).toNat)
  case atStart => exact ⟨0, [], by omega, rfl, World.ownsRow_nil _ _ _ _, Lib.hid (by simp), Nat.zero_le _, Below.refl _ _⟩
  case round =>
    obtain ⟨k, pre, hk, rfl, hown, HP, hpl, hbr⟩ := hrel
    by_cases hlt : k < s.size
    · obtain ⟨wo, rfl⟩ : ∃ wo : World, wo = wr := ⟨_, rfl⟩
      go_wp2_with fail
      go_loop [6, 7, 8, 9] (fun n kk j _ => ∃ t q m : Nat, t ≤ 4 ∧ j = .int .i64 t ∧ kk = .int .i64 q ∧ n = .int .i64 m ∧ q ≤ t ∧ Hid (q = min t (s.size - k)) ∧ m < 16777216 ∧ Hid (m < 64 ^ t) ∧ Hid (accO (s.data.toList.drop k) t = some m)) (fun _ _ j _ => 4 - (intOf j).toNat)
      case atStart => exact ⟨0, 0, 0, by omega, rfl, rfl, rfl, by omega, Lib.hid (by omega), by omega, Lib.hid (by decide), Lib.hid rfl⟩
      case round =>
        obtain ⟨t, q, m, ht, rfl, rfl, rfl, hqt, HQ, hm, HM, HA⟩ := hrel
        by_cases ht4 : t < 4
        · have hm3 := pow64 HM.out ht4
          by_cases hkt : k + t < s.size
          · obtain ⟨c, hc⟩ : ∃ c, s[k + t] = c := ⟨_, rfl⟩
            have HC := Lib.hid hc
            cases hv : b64Val c with
            | none =>
              have hG := Lib.hid (read_bad (lax_bad hlt ht4 ((valAt_in hkt HC.out).trans hv) HP.out))
              have HV := Lib.hid hv
              clear hv
              go_wp2_with fail
              refine (rletter_none c _ HV.out).mono ?_
              rintro e w1 ⟨rfl, rfl⟩
              go_wp2_with fail
              go_ret2
              exact ⟨ret_se hG.out.1.symm hG.out.2.symm, hbr⟩
            | some v =>
              have hvl := b64Val_lt hv
              have HA1 := Lib.hid (acc_step HA.out ((valAt_in hkt HC.out).trans hv))
              have HV := Lib.hid hv
              clear hv
              go_wp2_with fail
              refine (rletter_some c v _ HV.out).mono ?_
              rintro e w1 ⟨rfl, rfl⟩
              go_wp2_with fail
              go_round
              case rel => exact ⟨t + 1, q + 1, m * 64 + v, by omega, by go_num, by go_num, by go_num, by omega, Lib.hid (by have := HQ.out; omega), by omega, Lib.hid (pow64s HM.out hvl), HA1⟩
              case measure => simp [intOf]; omega
          · have HA1 := Lib.hid (acc_step0 HA.out (valAt_end hkt))
            have HM1 := Lib.hid (pow64z HM.out)
            go_wp2_with fail
            go_round
            case rel => exact ⟨t + 1, q, m * 64, by omega, by go_num, rfl, by go_num, by omega, Lib.hid (by have := HQ.out; omega), by omega, HM1, HA1⟩
            case measure => simp [intOf]; omega
        · obtain rfl : t = 4 := by omega
          have hcs : k + 1 = s.size ∨ k + 2 = s.size ∨ k + 3 = s.size ∨ k + 3 < s.size := by omega
          obtain ⟨c0, HC0⟩ : ∃ c0, Hid (UInt8.ofNat (m / 65536) = c0) := ⟨_, Lib.hid rfl⟩
          obtain ⟨c1, HC1⟩ : ∃ c1, Hid (UInt8.ofNat (m / 256 % 256) = c1) := ⟨_, Lib.hid rfl⟩
          obtain ⟨c2, HC2⟩ : ∃ c2, Hid (UInt8.ofNat (m % 256) = c2) := ⟨_, Lib.hid rfl⟩
          have h0 := c0.toNat_lt
          have h1 := c1.toNat_lt
          have h2 := c2.toNat_lt
          have e0 : (m : Int) / 65536 = (c0.toNat : Int) := by rw [← HC0.out]; simp; omega
          have e1 : (m : Int) / 256 % 256 = (c1.toNat : Int) := by rw [← HC1.out]; simp
          have e2 : (m : Int) % 256 = (c2.toNat : Int) := by rw [← HC2.out]; simp
          have HG : Hid (grpL m q = [c0] ++ ((if 2 < q then [c1] else []) ++ (if 3 < q then [c2] else []))) := by show _ = _; rw [grpL, HC0.out, HC1.out, HC2.out]; rfl
          rcases hcs with hr | hr | hr | hr
          · obtain rfl : q = 1 := by have := HQ.out; omega
            have hG := Lib.hid (read_bad (lax_one hr HA.out HP.out))
            have HR := Lib.hid hr
            clear hr
            go_wp2_with fail
            go_ret2
            exact ⟨ret_se hG.out.1.symm hG.out.2.symm, hbr⟩
          · obtain rfl : q = 2 := by have := HQ.out; omega
            have HP1 := Lib.hid (lax_step (by omega) HQ.out HA.out HP.out)
            have HR := Lib.hid hr
            have hk3 : k + 2 ≤ s.size := by omega
            clear hr
            go_wp2_with (at_builtin; refine wpList_append_own _ rfl _ _ 107 rfl w.heap.size 5 i0 (.int .u8 0) 1 1 Tryz.underlying107 hi hz0 hz1 hz2 rfl (by decide) _ _ _ rfl (hown.alloc _) ⟨wo.heap.size, 0, none⟩ 1 1 [.int .u8 (c0.toNat : Int)] rfl rfl (cell_one_new _ _ _) (by intro u hu; simp at hu; subst hu; rfl) (by unfold maxLen; omega) (by omega) (by have := hbr.size; simp; omega) ?_; intro v1 w1 ho1 hg1 _)
            have hb1 : Below w.heap.size w w1 := (hbr.alloc (hbr.size) _).grown hg1 (by have := hbr.size; simp; omega) (fun q hq => (hown.lt q hq).1)
            have hw1 := own_snoc ho1
            clear ho1 hg1
            go_wp2_with fail
            go_roundw
            case rel => exact ⟨k + 4, pre ++ [c0], by omega, by go_num, by simpa using hw1, Lib.hid (by have := HP1.out; rw [HG.out] at this; simpa using this), by simp; omega, hb1⟩
            case measure => simp [intOf]; omega
          · obtain rfl : q = 3 := by have := HQ.out; omega
            have HP1 := Lib.hid (lax_step (by omega) HQ.out HA.out HP.out)
            have HR := Lib.hid hr
            have hk3 : k + 3 ≤ s.size := by omega
            clear hr
            go_wp2_with (first | (at_builtin; refine wpList_append_own _ rfl _ _ 107 rfl w.heap.size 5 i0 (.int .u8 0) 1 1 Tryz.underlying107 hi hz0 hz1 hz2 rfl (by decide) _ _ _ rfl (hw1.alloc _) ⟨w1.heap.size, 0, none⟩ 1 1 [.int .u8 (c1.toNat : Int)] rfl rfl (cell_one_new _ _ _) (by intro u hu; simp at hu; subst hu; rfl) (by unfold maxLen; omega) (by omega) (by have := hb1.size; simp; omega) ?_; intro v2 w2 ho2 hg2 _; have hb2 : Below w.heap.size w w2 := (hb1.alloc (hb1.size) _).grown hg2 (by have := hb1.size; simp; omega) (fun q hq => (hw1.lt q hq).1); have hw2 := own_snoc ho2; clear ho2 hg2) | (at_builtin; refine wpList_append_own _ rfl _ _ 107 rfl w.heap.size 5 i0 (.int .u8 0) 1 1 Tryz.underlying107 hi hz0 hz1 hz2 rfl (by decide) _ _ _ rfl (hown.alloc _) ⟨wo.heap.size, 0, none⟩ 1 1 [.int .u8 (c0.toNat : Int)] rfl rfl (cell_one_new _ _ _) (by intro u hu; simp at hu; subst hu; rfl) (by unfold maxLen; omega) (by omega) (by have := hbr.size; simp; omega) ?_; intro v1 w1 ho1 hg1 _; have hb1 : Below w.heap.size w w1 := (hbr.alloc (hbr.size) _).grown hg1 (by have := hbr.size; simp; omega) (fun q hq => (hown.lt q hq).1); have hw1 := own_snoc ho1; clear ho1 hg1))
            go_roundw
            case rel => exact ⟨k + 4, pre ++ [c0] ++ [c1], by omega, by go_num, by simpa using hw2, Lib.hid (by have := HP1.out; rw [HG.out] at this; simpa using this), by simp; omega, hb2⟩
            case measure => simp [intOf]; omega
          · obtain rfl : q = 4 := by have := HQ.out; omega
            have HP1 := Lib.hid (lax_step (by omega) HQ.out HA.out HP.out)
            go_wp2_with (first | (at_builtin; refine wpList_append_own _ rfl _ _ 107 rfl w.heap.size 5 i0 (.int .u8 0) 1 1 Tryz.underlying107 hi hz0 hz1 hz2 rfl (by decide) _ _ _ rfl (hw2.alloc _) ⟨w2.heap.size, 0, none⟩ 1 1 [.int .u8 (c2.toNat : Int)] rfl rfl (cell_one_new _ _ _) (by intro u hu; simp at hu; subst hu; rfl) (by unfold maxLen; omega) (by omega) (by have := hb2.size; simp; omega) ?_; intro v3 w3 ho3 hg3 _; have hb3 : Below w.heap.size w w3 := (hb2.alloc (hb2.size) _).grown hg3 (by have := hb2.size; simp; omega) (fun q hq => (hw2.lt q hq).1); have hw3 := own_snoc ho3; clear ho3 hg3) | (at_builtin; refine wpList_append_own _ rfl _ _ 107 rfl w.heap.size 5 i0 (.int .u8 0) 1 1 Tryz.underlying107 hi hz0 hz1 hz2 rfl (by decide) _ _ _ rfl (hw1.alloc _) ⟨w1.heap.size, 0, none⟩ 1 1 [.int .u8 (c1.toNat : Int)] rfl rfl (cell_one_new _ _ _) (by intro u hu; simp at hu; subst hu; rfl) (by unfold maxLen; omega) (by omega) (by have := hb1.size; simp; omega) ?_; intro v2 w2 ho2 hg2 _; have hb2 : Below w.heap.size w w2 := (hb1.alloc (hb1.size) _).grown hg2 (by have := hb1.size; simp; omega) (fun q hq => (hw1.lt q hq).1); have hw2 := own_snoc ho2; clear ho2 hg2) | (at_builtin; refine wpList_append_own _ rfl _ _ 107 rfl w.heap.size 5 i0 (.int .u8 0) 1 1 Tryz.underlying107 hi hz0 hz1 hz2 rfl (by decide) _ _ _ rfl (hown.alloc _) ⟨wo.heap.size, 0, none⟩ 1 1 [.int .u8 (c0.toNat : Int)] rfl rfl (cell_one_new _ _ _) (by intro u hu; simp at hu; subst hu; rfl) (by unfold maxLen; omega) (by omega) (by have := hbr.size; simp; omega) ?_; intro v1 w1 ho1 hg1 _; have hb1 : Below w.heap.size w w1 := (hbr.alloc (hbr.size) _).grown hg1 (by have := hbr.size; simp; omega) (fun q hq => (hown.lt q hq).1); have hw1 := own_snoc ho1; clear ho1 hg1))
            go_roundw
            case rel => exact ⟨k + 4, pre ++ [c0] ++ [c1] ++ [c2], by omega, by go_num, by simpa using hw3, Lib.hid (by have := HP1.out; rw [HG.out] at this; simpa using this), by simp; omega, hb3⟩
            case measure => simp [intOf]; omega
    · have HE := Lib.hid (lax_end hlt HP.out)
      have hcv := conv_own hown
      have hz : (⟨pre.toArray⟩ : ByteArray).size ≤ 1000003 := by show pre.toArray.size ≤ _; simp; omega
      have HZ := Lib.hid hz
      clear hz
      generalize ht : (⟨pre.toArray⟩ : ByteArray) = t at hcv HZ
      have hrb := fun wq => rbase64_any t wq (by have := HZ.out; omega)
      by_cases hsame : b64S t = s
      · have hG := Lib.hid (read_good (s := s) (t := t) (by rw [← ht] at hsame ⊢; exact lax_same hsame))
        have hq2 : ((b64S t).toList == s.toList) = true := by rw [hsame]; simp
        have HT := Lib.hid ht
        clear hsame ht
        go_wp2_with fail
        refine (Calls.mono (hrb _) ?_)
        rintro e w1 ⟨rfl, hb1⟩
        have hcv1 := conv_own (own_below hown hb1)
        rw [HT.out] at hcv1
        clear hcv
        go_wp2_with fail
        go_ret2
        exact ⟨ret_se hG.out.1.symm hG.out.2.symm, bthen hbr hb1⟩
      · have hG := Lib.hid (read_bad (s := s) (by rw [← ht] at hsame; exact lax_other HE.out hsame))
        have hq := str_ne hsame
        clear hsame ht
        go_wp2_with fail
        refine (Calls.mono (hrb _) ?_)
        rintro e w1 ⟨rfl, hb1⟩
        go_wp2_with fail
        go_ret2
        exact ⟨ret_se hG.out.1.symm hG.out.2.symm, bthen hbr hb1⟩
end Go.Proofs.YtiiioefjdebggaaGreatDoor

/- identityref01.Word. -/
namespace Go.Proofs.YtiiioefjdebggaaGreatDoor
open Go.RowKit

def letterC (c : UInt8) : Bool := decide ((97 ≤ c.toNat ∧ c.toNat ≤ 122) ∨ (65 ≤ c.toNat ∧ c.toNat ≤ 90))
def digitC (c : UInt8) : Bool := decide (48 ≤ c.toNat ∧ c.toNat ≤ 57)
theorem rletter_any (c : UInt8) (w : World) :
    Calls Tryz.prog 114 #[.int .u8 (c.toNat : Int)] w fun e w' => e = .returned (.bool (letterC c)) ∧ w = w' := by
  have hcs : (97 ≤ c.toNat ∧ c.toNat ≤ 122) ∨ (65 ≤ c.toNat ∧ c.toNat ≤ 90) ∨ c.toNat < 65 ∨ (90 < c.toNat ∧ c.toNat < 97) ∨ 122 < c.toNat := by omega
  go_enter Tryz.func114, Tryz.ntmps114
  have HN : Hid (∀ b : Bool, (b = true ↔ ((97 ≤ c.toNat ∧ c.toNat ≤ 122) ∨ (65 ≤ c.toNat ∧ c.toNat ≤ 90))) → b = letterC c) := Lib.hid (fun b h => by rw [Bool.eq_iff_iff, h, letterC, decide_eq_true_iff])
  generalize c.toNat = n at *
  rcases hcs with ⟨h1, h2⟩ | ⟨h1, h2⟩ | h | ⟨h1, h2⟩ | h
  all_goals
    go_wp2
    go_ret
    exact ⟨ret_bool (HN.out _ (by simp; try omega)), rfl⟩
theorem rdigit_any (c : UInt8) (w : World) :
    Calls Tryz.prog 115 #[.int .u8 (c.toNat : Int)] w fun e w' => e = .returned (.bool (digitC c)) ∧ w = w' := by
  have hcs : (48 ≤ c.toNat ∧ c.toNat ≤ 57) ∨ c.toNat < 48 ∨ 57 < c.toNat := by omega
  go_enter Tryz.func115, Tryz.ntmps115
  have HN : Hid (∀ b : Bool, (b = true ↔ (48 ≤ c.toNat ∧ c.toNat ≤ 57)) → b = digitC c) := Lib.hid (fun b h => by rw [Bool.eq_iff_iff, h, digitC, decide_eq_true_iff])
  generalize c.toNat = n at *
  rcases hcs with ⟨h1, h2⟩ | h | h
  all_goals
    go_wp2
    go_ret
    exact ⟨ret_bool (HN.out _ (by simp; try omega)), rfl⟩
set_option maxHeartbeats 4000000 in
set_option maxRecDepth 100000 in
theorem rword_any (s : ByteArray) (w : World) (hs : s.size ≤ 9223372036854775807) :
    Calls Tryz.prog 68 #[.string s] w fun e w' => e = .returned (.bool (wordS s)) ∧ w = w' := by
  go_enter Tryz.func68, Tryz.ntmps68
  go_wp2_with fail
  go_loop [3] (fun j => ∃ k : Nat, k ≤ s.size ∧ j = .int .i64 k ∧ Hid ((s.data.toList.take k).all wordC = true)) (fun i => s.size - (intOf i).toNat)
  case atStart => exact ⟨0, Nat.zero_le _, rfl, Lib.hid (by simp)⟩
  case round =>
    obtain ⟨k, hk, rfl, HA⟩ := hrel
    by_cases hlt : k < s.size
    · have HT : Hid (wordC s[k] = true → (s.data.toList.take (k + 1)).all wordC = true) := Lib.hid (fun h => take_all hlt HA.out h)
      have HF : Hid (wordC s[k] = false → wordS s = false) := Lib.hid (fun h => by rw [wordS, all_bad hlt h, Bool.and_false])
      have HL := Lib.hid (rletter_any s[k] w)
      have HD := Lib.hid (rdigit_any s[k] w)
      have hcs : letterC s[k] = true ∨ (letterC s[k] = false ∧ digitC s[k] = true) ∨ (letterC s[k] = false ∧ digitC s[k] = false ∧ (s[k].toNat = 45 ∨ s[k].toNat = 95 ∨ s[k].toNat = 46 ∨ s[k].toNat = 58)) ∨ (letterC s[k] = false ∧ digitC s[k] = false ∧ s[k].toNat ≠ 45 ∧ s[k].toNat ≠ 95 ∧ s[k].toNat ≠ 46 ∧ s[k].toNat ≠ 58) := by
        by_cases h1 : letterC s[k] = true
        · exact .inl h1
        · have h1' : letterC s[k] = false := by simpa using h1
          by_cases h2 : digitC s[k] = true
          · exact .inr (.inl ⟨h1', h2⟩)
          · have h2' : digitC s[k] = false := by simpa using h2
            by_cases h3 : s[k].toNat = 45 ∨ s[k].toNat = 95 ∨ s[k].toNat = 46 ∨ s[k].toNat = 58
            · exact .inr (.inr (.inl ⟨h1', h2', h3⟩))
            · exact .inr (.inr (.inr ⟨h1', h2', by omega, by omega, by omega, by omega⟩))
      rcases hcs with h1 | ⟨h1, h2⟩ | ⟨h1, h2, h3⟩ | ⟨h1, h2, h3, h4, h5, h6⟩
      · have HS := Lib.hid (HT.out (by rw [letterC, decide_eq_true_iff] at h1; rw [wordC, alnumC, Bool.or_eq_true, decide_eq_true_iff]; omega))
        have H1 := Lib.hid h1
        clear h1
        go_wp2_with fail
        refine (Calls.mono HL.out ?_)
        rintro e wsame ⟨rfl, rfl⟩
        rw [H1.out]
        go_wp2_with fail
        go_round
        case rel => exact ⟨k + 1, hlt, by go_num, HS⟩
        case measure => simp [intOf]; omega
      · have HS := Lib.hid (HT.out (by rw [digitC, decide_eq_true_iff] at h2; rw [wordC, alnumC, Bool.or_eq_true, decide_eq_true_iff]; omega))
        have H1 := Lib.hid h1
        have H2 := Lib.hid h2
        clear h1 h2
        go_wp2_with fail
        refine (Calls.mono HL.out ?_)
        rintro e wsame ⟨rfl, rfl⟩
        rw [H1.out]
        go_wp2_with fail
        refine (Calls.mono HD.out ?_)
        rintro e wsame ⟨rfl, rfl⟩
        rw [H2.out]
        go_wp2_with fail
        go_round
        case rel => exact ⟨k + 1, hlt, by go_num, HS⟩
        case measure => simp [intOf]; omega
      · have HS := Lib.hid (HT.out (by rw [wordC, Bool.or_eq_true, decide_eq_true_iff]; exact .inr h3))
        have H1 := Lib.hid h1
        have H2 := Lib.hid h2
        clear h1 h2
        rcases h3 with h3 | h3 | h3 | h3
        ·
          have b0 : ((s[k].toNat : Int) == 45) = true := by rw [h3]; rfl
          have d0 : ((s[k].toNat : Int) != 45) = false := by rw [h3]; rfl
          have b1 : ((s[k].toNat : Int) == 95) = false := by rw [h3]; rfl
          have d1 : ((s[k].toNat : Int) != 95) = true := by rw [h3]; rfl
          have b2 : ((s[k].toNat : Int) == 46) = false := by rw [h3]; rfl
          have d2 : ((s[k].toNat : Int) != 46) = true := by rw [h3]; rfl
          have b3 : ((s[k].toNat : Int) == 58) = false := by rw [h3]; rfl
          have d3 : ((s[k].toNat : Int) != 58) = true := by rw [h3]; rfl
          clear h3
          go_wp2_with fail
          refine (Calls.mono HL.out ?_)
          rintro e wsame ⟨rfl, rfl⟩
          rw [H1.out]
          go_wp2_with fail
          refine (Calls.mono HD.out ?_)
          rintro e wsame ⟨rfl, rfl⟩
          rw [H2.out]
          go_wp2_with fail
          go_round
          case rel => exact ⟨k + 1, hlt, by go_num, HS⟩
          case measure => simp [intOf]; omega
        ·
          have b0 : ((s[k].toNat : Int) == 45) = false := by rw [h3]; rfl
          have d0 : ((s[k].toNat : Int) != 45) = true := by rw [h3]; rfl
          have b1 : ((s[k].toNat : Int) == 95) = true := by rw [h3]; rfl
          have d1 : ((s[k].toNat : Int) != 95) = false := by rw [h3]; rfl
          have b2 : ((s[k].toNat : Int) == 46) = false := by rw [h3]; rfl
          have d2 : ((s[k].toNat : Int) != 46) = true := by rw [h3]; rfl
          have b3 : ((s[k].toNat : Int) == 58) = false := by rw [h3]; rfl
          have d3 : ((s[k].toNat : Int) != 58) = true := by rw [h3]; rfl
          clear h3
          go_wp2_with fail
          refine (Calls.mono HL.out ?_)
          rintro e wsame ⟨rfl, rfl⟩
          rw [H1.out]
          go_wp2_with fail
          refine (Calls.mono HD.out ?_)
          rintro e wsame ⟨rfl, rfl⟩
          rw [H2.out]
          go_wp2_with fail
          go_round
          case rel => exact ⟨k + 1, hlt, by go_num, HS⟩
          case measure => simp [intOf]; omega
        ·
          have b0 : ((s[k].toNat : Int) == 45) = false := by rw [h3]; rfl
          have d0 : ((s[k].toNat : Int) != 45) = true := by rw [h3]; rfl
          have b1 : ((s[k].toNat : Int) == 95) = false := by rw [h3]; rfl
          have d1 : ((s[k].toNat : Int) != 95) = true := by rw [h3]; rfl
          have b2 : ((s[k].toNat : Int) == 46) = true := by rw [h3]; rfl
          have d2 : ((s[k].toNat : Int) != 46) = false := by rw [h3]; rfl
          have b3 : ((s[k].toNat : Int) == 58) = false := by rw [h3]; rfl
          have d3 : ((s[k].toNat : Int) != 58) = true := by rw [h3]; rfl
          clear h3
          go_wp2_with fail
          refine (Calls.mono HL.out ?_)
          rintro e wsame ⟨rfl, rfl⟩
          rw [H1.out]
          go_wp2_with fail
          refine (Calls.mono HD.out ?_)
          rintro e wsame ⟨rfl, rfl⟩
          rw [H2.out]
          go_wp2_with fail
          go_round
          case rel => exact ⟨k + 1, hlt, by go_num, HS⟩
          case measure => simp [intOf]; omega
        ·
          have b0 : ((s[k].toNat : Int) == 45) = false := by rw [h3]; rfl
          have d0 : ((s[k].toNat : Int) != 45) = true := by rw [h3]; rfl
          have b1 : ((s[k].toNat : Int) == 95) = false := by rw [h3]; rfl
          have d1 : ((s[k].toNat : Int) != 95) = true := by rw [h3]; rfl
          have b2 : ((s[k].toNat : Int) == 46) = false := by rw [h3]; rfl
          have d2 : ((s[k].toNat : Int) != 46) = true := by rw [h3]; rfl
          have b3 : ((s[k].toNat : Int) == 58) = true := by rw [h3]; rfl
          have d3 : ((s[k].toNat : Int) != 58) = false := by rw [h3]; rfl
          clear h3
          go_wp2_with fail
          refine (Calls.mono HL.out ?_)
          rintro e wsame ⟨rfl, rfl⟩
          rw [H1.out]
          go_wp2_with fail
          refine (Calls.mono HD.out ?_)
          rintro e wsame ⟨rfl, rfl⟩
          rw [H2.out]
          go_wp2_with fail
          go_round
          case rel => exact ⟨k + 1, hlt, by go_num, HS⟩
          case measure => simp [intOf]; omega
      · have HS := Lib.hid (HF.out (by
          rw [letterC, decide_eq_false_iff_not] at h1
          rw [digitC, decide_eq_false_iff_not] at h2
          rw [wordC, alnumC, Bool.or_eq_false_iff, decide_eq_false_iff_not, decide_eq_false_iff_not]; omega))
        have H1 := Lib.hid h1
        have H2 := Lib.hid h2
        have b1 : ((s[k].toNat : Int) == 45) = false := by rw [beq_eq_false_iff_ne]; omega
        have b2 : ((s[k].toNat : Int) == 95) = false := by rw [beq_eq_false_iff_ne]; omega
        have b3 : ((s[k].toNat : Int) == 46) = false := by rw [beq_eq_false_iff_ne]; omega
        have b4 : ((s[k].toNat : Int) == 58) = false := by rw [beq_eq_false_iff_ne]; omega
        have d1 : ((s[k].toNat : Int) != 45) = true := by rw [bne_iff_ne]; omega
        have d2 : ((s[k].toNat : Int) != 95) = true := by rw [bne_iff_ne]; omega
        have d3 : ((s[k].toNat : Int) != 46) = true := by rw [bne_iff_ne]; omega
        have d4 : ((s[k].toNat : Int) != 58) = true := by rw [bne_iff_ne]; omega
        clear h1 h2 h3 h4 h5 h6
        go_wp2_with fail
        refine (Calls.mono HL.out ?_)
        rintro e wsame ⟨rfl, rfl⟩
        rw [H1.out]
        go_wp2_with fail
        refine (Calls.mono HD.out ?_)
        rintro e wsame ⟨rfl, rfl⟩
        rw [H2.out]
        go_wp2_with fail
        go_ret
        exact ⟨ret_bool HS.out.symm, rfl⟩
    · have HD := Lib.hid (all_done hlt HA.out)
      by_cases h1 : 1 ≤ s.size
      · have HQ : Hid (decide ((s.size : Int) ≤ 64) = wordS s) := Lib.hid (by rw [wordS, HD.out, Bool.and_true]; exact decide_eq_decide.2 (by omega))
        go_wp2_with fail
        go_ret
        exact ⟨ret_bool HQ.out, rfl⟩
      · have HQ : Hid (false = wordS s) := Lib.hid (by rw [wordS, HD.out, Bool.and_true]; exact (decide_eq_false (by omega)).symm)
        go_wp2_with fail
        go_ret
        exact ⟨ret_bool HQ.out, rfl⟩
end Go.Proofs.YtiiioefjdebggaaGreatDoor

/- identityref26.point and Split. -/
namespace Go.Proofs.YtiiioefjdebggaaGreatDoor
open Go.RowKit

theorem pt_hit (s : ByteArray) (m : Nat) (h : m < s.size) (hc : s[m] = 46) : Lib.lastIdx s 46 (m + 1) = (m : Int) := Lib.lastIdx_hit s 46 m ((bang_at s m h).2 (by rw [Array.getElem_toList]; exact hc))
theorem pt_miss (s : ByteArray) (m : Nat) (h : m < s.size) (hc : s[m] ≠ 46) : Lib.lastIdx s 46 (m + 1) = Lib.lastIdx s 46 m := Lib.lastIdx_miss s 46 m (fun e => hc (by have h2 := (bang_at s m h).1 e; rw [Array.getElem_toList] at h2; exact h2))
set_option maxHeartbeats 1000000 in
theorem rpoint_any (s : ByteArray) (w : World) (hs : s.size ≤ 1000000000) :
    Calls Tryz.prog 67 #[.string s] w fun e w' => e = .returned (.int .i64 (ptI s)) ∧ w = w' := by
  go_enter Tryz.func67, Tryz.ntmps67
  go_wp2_with fail
  go_loop [3] (fun i => ∃ k : Nat, k ≤ s.size ∧ i = .int .i64 ((k : Int) - 1) ∧ Hid (ptI s = Lib.lastIdx s 46 k)) (fun i => ((intOf i) + 1).toNat)
  case atStart => exact ⟨s.size, Nat.le_refl _, rfl, Lib.hid rfl⟩
  case round =>
    obtain ⟨k, hk, rfl, HH⟩ := hrel
    rcases k with _ | m
    · go_wp2_with fail
      go_ret
      exact ⟨ret_int HH.out.symm, rfl⟩
    · have i0 : (0 : Int) ≤ (m : Int) := by omega
      have i1 : (m : Int) < (s.size : Int) := by omega
      have hm : m < s.size := by omega
      have HA := Lib.hid (pt_hit s m hm)
      have HB := Lib.hid (pt_miss s m hm)
      have hcs : ((((m + 1 : Nat) : Int) - 1)) = (m : Int) := by omega
      rw [hcs]
      by_cases hc : s[m] = 46
      · have HV := Lib.hid (HH.out.trans (HA.out hc))
        have e1 : ((s[m].toNat : Int) == 46) = true := by rw [hc]; rfl
        clear hc
        go_wp2_with fail
        go_ret
        exact ⟨ret_int HV.out.symm, rfl⟩
      · have HV := Lib.hid (HH.out.trans (HB.out hc))
        have e1 : ((s[m].toNat : Int) == 46) = false := by
          rw [beq_eq_false_iff_ne]
          intro e
          exact hc (UInt8.toNat_inj.1 (by show _ = 46; omega))
        clear hc
        go_wp2_with fail
        go_round
        case rel => exact ⟨m, by omega, by go_num, HV⟩
        case measure => simp [intOf]
set_option linter.unusedSimpArgs false in
set_option maxHeartbeats 8000000 in
set_option maxRecDepth 100000 in
theorem rsplit26_any (s : ByteArray) (w : World) (hs : s.size ≤ 1000000) :
    Calls Tryz.prog 27 #[.string s] w fun e w' => RetSplit s e ∧ Below w.heap.size w w' := by
  rcases ptI_cases s with ⟨hj, hn⟩ | ⟨j, hjl, hj, _⟩
  · have HN := Lib.hid (tok_no (parts_no1 hn))
    have HJ := Lib.hid (rpoint_any s)
    rw [hj] at HJ
    clear hn hj
    go_enter Tryz.func27, Tryz.ntmps27
    go_wp2_with fail
    refine (Calls.mono (HJ.out _ (by omega)) ?_)
    rintro e wsame ⟨rfl, rfl⟩
    go_wp2_with fail
    exact bodyPost_ret (v := .tuple #[.string ⟨#[]⟩, .string ⟨#[]⟩, .string ⟨#[]⟩, .int .i64 4]) (by simp [results, Tryz.results27, go_sem]) rfl ⟨.inr ⟨rfl, HN.out⟩, Below.refl _ _⟩
  · have hjs : j < s.size := by simpa using hjl
    have HJ := Lib.hid (rpoint_any s)
    rw [hj] at HJ
    have j0 : (0 : Int) ≤ (j : Int) := by omega
    have j1 : (j : Int) ≤ (s.size : Int) := by omega
    have j2 : ¬ (j : Int) < 0 := by omega
    have hts : (s.extract 0 j).size ≤ 1000000 := by rw [ByteArray.size_extract]; omega
    rcases ptI_cases (s.extract 0 j) with ⟨hi, hn⟩ | ⟨i, hil, hi, _⟩
    · have HN := Lib.hid (tok_no (parts_no2 hj hn))
      have HI := Lib.hid (rpoint_any (s.extract 0 j))
      rw [hi] at HI
      clear hn hi hj
      go_enter Tryz.func27, Tryz.ntmps27
      go_wp2_with fail
      refine (Calls.mono (HJ.out _ (by omega)) ?_)
      rintro e wsame ⟨rfl, rfl⟩
      go_wp2_with fail
      refine (Calls.mono (HI.out _ (by omega)) ?_)
      rintro e wsame ⟨rfl, rfl⟩
      go_wp2_with fail
      exact bodyPost_ret (v := .tuple #[.string ⟨#[]⟩, .string ⟨#[]⟩, .string ⟨#[]⟩, .int .i64 4]) (by simp [results, Tryz.results27, go_sem]) rfl ⟨.inr ⟨rfl, HN.out⟩, Below.refl _ _⟩
    · obtain ⟨hp, hij, _⟩ := parts_yes hj hi
      have HP := Lib.hid hp
      have HI := Lib.hid (rpoint_any (s.extract 0 j))
      rw [hi] at HI
      have i0 : (0 : Int) ≤ (i : Int) := by omega
      have i1 : (i : Int) ≤ (s.size : Int) := by omega
      have i2 : ¬ (i : Int) < 0 := by omega
      have i3 : (i : Int) + 1 ≤ (j : Int) := by omega
      have i4 : (0 : Int) ≤ (i : Int) + 1 := by omega
      have i5 : IntKind.i64.wrap ((i : Int) + 1) = (i : Int) + 1 := by rw [IntKind.wrap_i64]; omega
      have j5 : IntKind.i64.wrap ((j : Int) + 1) = (j : Int) + 1 := by rw [IntKind.wrap_i64]; omega
      have j4 : (0 : Int) ≤ (j : Int) + 1 := by omega
      have j6 : (j : Int) + 1 ≤ (s.size : Int) := by omega
      have ti : ((i : Int) + 1).toNat = i + 1 := by omega
      have tj : ((j : Int) + 1).toNat = j + 1 := by omega
      have za : (s.extract 0 i).size < s.size := by rw [ByteArray.size_extract]; omega
      have zb : (s.extract (i + 1) j).size < s.size := by rw [ByteArray.size_extract]; omega
      have zc : (s.extract (j + 1) s.size).size < s.size := by rw [ByteArray.size_extract]; omega
      clear hi hj hp
      go_enter Tryz.func27, Tryz.ntmps27
      go_wp2_with fail
      refine (Calls.mono (HJ.out _ (by omega)) ?_)
      rintro e wsame ⟨rfl, rfl⟩
      go_wp2_with fail
      refine (Calls.mono (HI.out _ (by omega)) ?_)
      rintro e wsame ⟨rfl, rfl⟩
      go_wp2_with fail
      refine (rword_any (s.extract 0 i) _ (by omega)).mono ?_
      rintro e wsame ⟨rfl, rfl⟩
      cases hw : wordS (s.extract 0 i) with
      | false =>
        have HN := Lib.hid (tok_bad HP.out (.inl hw))
        clear hw
        go_wp2_with fail
        exact bodyPost_ret (v := .tuple #[.string ⟨#[]⟩, .string ⟨#[]⟩, .string ⟨#[]⟩, .int .i64 4]) (by simp [results, Tryz.results27, go_sem]) rfl ⟨.inr ⟨rfl, HN.out⟩, Below.refl _ _⟩
      | true =>
        have HW := Lib.hid hw
        clear hw
        go_wp2_with fail
        refine (rreadb64_any (s.extract (i + 1) j) _ (by omega)).mono ?_
        rintro e w2 ⟨rfl, hb2⟩
        have B2 := Lib.hid hb2
        clear hb2
        obtain ⟨E, HE⟩ : ∃ E, Hid (readB64Err (s.extract (i + 1) j) = E) := ⟨_, Lib.hid rfl⟩
        obtain ⟨T, HT⟩ : ∃ T, Hid (readB64S (s.extract (i + 1) j) = T) := ⟨_, Lib.hid rfl⟩
        have HEC := Lib.hid (readB64E_cases (s.extract (i + 1) j))
        have HTZ : Hid (E = 0 → T.size < s.size) := Lib.hid (fun h => by
          have h1 := b64_ok (HE.out.trans h)
          have h2 := b64S_size (readB64S (s.extract (i + 1) j))
          rw [← h1, HT.out] at h2
          omega)
        rw [HE.out] at HEC
        rw [HE.out, HT.out]
        go_wp2_with fail
        refine (rreadhex_any (s.extract (j + 1) s.size) _ (by omega)).mono ?_
        rintro e wsame ⟨rfl, rfl⟩
        obtain ⟨G, HG⟩ : ∃ E, Hid (readHexE (s.extract (j + 1) s.size) = E) := ⟨_, Lib.hid rfl⟩
        have HGC := Lib.hid (readHexE_cases (s.extract (j + 1) s.size))
        rw [HG.out] at HGC
        rw [HG.out]
        have BD := Lib.hid (fun n => below_drewN' B2.out n)
        rcases HEC.out with rfl | rfl
        · rcases HGC.out with rfl | rfl
          · have HTK : Hid (TokIs s (s.extract 0 i) T (s.extract (j + 1) s.size)) := Lib.hid (by rw [← HT.out]; exact tok_mk HP.out HW.out HE.out HG.out)
            have HCS := Lib.hid (hex_size HG.out)
            have HT2 := Lib.hid (HTZ.out rfl)
            go_wp2_with fail
            go_quiet (fail)
            go_wp2_with fail
            exact bodyPost_ret (v := .tuple #[.string (s.extract 0 i), .string T, .string (s.extract (j + 1) s.size), .int .i64 0]) (by simp [results, Tryz.results27, go_sem]) rfl ⟨.inl ⟨_, T, _, rfl, HTK.out, za, HT2.out, HCS.out⟩, BD.out _⟩
          · have HN := Lib.hid (tok_bad HP.out (.inr (.inr (by rw [HG.out]; decide))))
            go_wp2_with fail
            exact bodyPost_ret (v := .tuple #[.string ⟨#[]⟩, .string ⟨#[]⟩, .string ⟨#[]⟩, .int .i64 4]) (by simp [results, Tryz.results27, go_sem]) rfl ⟨.inr ⟨rfl, HN.out⟩, B2.out⟩
        · have HN := Lib.hid (tok_bad HP.out (.inr (.inl (by rw [HE.out]; decide))))
          go_wp2_with fail
          exact bodyPost_ret (v := .tuple #[.string ⟨#[]⟩, .string ⟨#[]⟩, .string ⟨#[]⟩, .int .i64 4]) (by simp [results, Tryz.results27, go_sem]) rfl ⟨.inr ⟨rfl, HN.out⟩, B2.out⟩
end Go.Proofs.YtiiioefjdebggaaGreatDoor

/- slices.Contains over strings, and the reference's Has. -/
namespace Go.Proofs.YtiiioefjdebggaaGreatDoor
open Go.RowKit

theorem memB_contains (l : List ByteArray) (s : ByteArray) : Lib.containsS l s = memB l s := by
  rw [Bool.eq_iff_iff, Lib.containsS_iff, memB_iff]
theorem contains_any (l : List ByteArray) (n : Nat) (hn : n ≤ l.length) (A : Option Addr) (c : Nat) (s : ByteArray) (w : World) (hS : Strs w A l) (hl : l.length ≤ 9223372036854775807) :
    Calls Tryz.prog 66 #[.slice A n c, .string s] w fun e w' => e = .returned (.bool (memB (l.take n) s)) ∧ w = w' := by
  by_cases h0 : n = 0
  · subst h0
    refine (Tryz.slices_Contains_string_empty A c s w).mono fun e w' ⟨he, hw⟩ => ⟨?_, hw.symm⟩
    rw [he]; rfl
  · obtain ⟨b, o, rfl, _⟩ := hS 0 (by omega)
    refine (Tryz.slices_Contains_string b o n c l s w hn (by omega) (fun j hj => ?_)).mono fun e w' ⟨he, hw⟩ => ⟨?_, hw.symm⟩
    · obtain ⟨b', o', e, hc⟩ := hS j hj
      injection e with e
      injection e with e1 e2
      subst e1; subst e2
      rw [hc, List.getD_eq_getElem?_getD, List.getElem?_eq_getElem hj, Option.getD_some]
    · rw [he, memB_contains]
theorem memB_step {l : List ByteArray} {k : Nat} {s : ByteArray} (hk : k < l.length) (h : memB (l.take k) s = false) (hne : l[k] ≠ s) : memB (l.take (k + 1)) s = false := by
  rw [List.take_succ_eq_append_getElem hk, memB, List.any_append, ← memB, h]
  simp [hne]
theorem memB_hit {l : List ByteArray} {k : Nat} {s : ByteArray} (hk : k < l.length) (h : l[k] = s) : memB l s = true := by
  rw [memB_iff, ← h]; exact List.getElem_mem hk
set_option maxHeartbeats 1000000 in
theorem has_any (l : List ByteArray) (A : Option Addr) (c : Nat) (s : ByteArray) (w : World) (hS : Strs w A l) (hl : l.length ≤ 9223372036854775807) :
    Calls Tryz.prog 100 #[.slice A l.length c, .string s] w fun e w' => e = .returned (.bool (memB l s)) ∧ w = w' := by
  have HS := Lib.hid hS
  have HH := Lib.hid (fun k hk h => @memB_hit l k s hk h)
  obtain ⟨V, HV⟩ : ∃ V, Hid (memB l s = V) := ⟨_, Lib.hid rfl⟩
  rw [HV.out] at HH
  rw [HV.out]
  clear hS
  go_enter Tryz.func100, Tryz.ntmps100
  go_wp2_with fail
  go_loop [5] (fun i => ∃ k : Nat, k ≤ l.length ∧ i = .int .i64 k ∧ Hid (memB (l.take k) s = false)) (fun i => l.length - (intOf i).toNat)
  case atStart => exact ⟨0, Nat.zero_le _, rfl, Lib.hid rfl⟩
  case round =>
    obtain ⟨k, hk, rfl, HM⟩ := hrel
    by_cases hlt : k < l.length
    · obtain ⟨b, o, rfl, hc⟩ := HS.out k hlt
      have HST := Lib.hid (fun h => memB_step hlt HM.out h)
      have HHK := Lib.hid (HH.out k hlt)
      obtain ⟨x, HX⟩ : ∃ x, Hid (l[k] = x) := ⟨_, Lib.hid rfl⟩
      rw [HX.out] at hc HST HHK
      by_cases hxs : x = s
      · have hG := Lib.hid (HHK.out hxs)
        subst hxs
        have e1 : (x.toList == x.toList) = true := by simp
        go_wp2_with fail
        go_ret
        exact ⟨ret_b hG.out.symm, rfl⟩
      · have e1 := str_ne hxs
        have e2 : ¬ x.toList = s.toList := fun h => by rw [h] at e1; simp at e1
        have HN := Lib.hid (HST.out hxs)
        go_wp2_with fail
        go_round
        case rel => exact ⟨k + 1, hlt, by go_num, HN⟩
        case measure => simp [intOf]; omega
    · have hG : Hid (V = false) := Lib.hid (by rw [← HV.out]; have h := HM.out; rwa [List.take_of_length_le (by omega)] at h)
      go_wp2_with fail
      go_ret
      exact ⟨ret_b hG.out.symm, rfl⟩
end Go.Proofs.YtiiioefjdebggaaGreatDoor

