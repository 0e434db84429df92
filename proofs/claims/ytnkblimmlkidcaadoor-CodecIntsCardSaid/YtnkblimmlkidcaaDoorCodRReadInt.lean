/- identityref02.ReadInt computes readIntP. -/
import Derived.Test.YtnkblimmlkidcaaDoorCodReadInt
import Derived.Test.YtnkblimmlkidcaaDoorIdx
namespace Go.Proofs.YtnkblimmlkidcaaDoor
open Go.RowKit

theorem val_take {t : ByteArray} {k : Nat} (h : k < t.size) : valL (t.data.toList.take (k + 1)) = valL (t.data.toList.take k) * 10 + (t[k].toNat - 48) := by
  have hl : k < t.data.toList.length := by simpa using h
  rw [List.take_succ_eq_append_getElem hl, valL_eq, valF_append, ← valL_eq]; rfl
theorem val_all (l : List UInt8) (k : Nat) : valL (l.take k) ≤ valL l := by
  have e : valL l = valF (valL (l.take k)) (l.drop k) := by
    rw [valL_eq (l.take k), ← valF_append, List.take_append_drop]; rfl
  rw [e]; exact valF_ge _ _
theorem notIn {v : Nat} (h : 9223372036854775808 < v) : ¬ inInt (v : Int) ∧ ¬ inInt (-(v : Int)) := by unfold inInt; omega
theorem notIn2 : ¬ inInt ((9223372036854775808 : Nat) : Int) := by unfold inInt; omega
theorem yesIn {v : Nat} (h : v ≤ 9223372036854775808) : inInt (-(v : Int)) := by unfold inInt; omega
theorem yesIn2 {v : Nat} (h : v ≤ 9223372036854775808) (h2 : v ≠ 9223372036854775808) : inInt (v : Int) := by unfold inInt; omega

/-- The number of a form by what stands behind the sign. -/
theorem int_minus {s : ByteArray} (h : 0 < s.size) (h45 : s[0].toNat = 45) : intForm s.data.toList = decL (s.extract 1 s.size).data.toList false ∧ intVal s.data.toList = -(valL (s.extract 1 s.size).data.toList : Int) := by
  have e : s.data.toList = 45 :: (s.extract 1 s.size).data.toList := by
    rw [ext_back]
    have := head_of h
    rw [this]
    congr 1
    exact UInt8.toNat_inj.1 (by rw [h45]; rfl)
  rw [e, intForm, intVal, if_pos rfl, if_pos rfl]
  exact ⟨rfl, rfl⟩
theorem int_plus {s : ByteArray} (h : 0 < s.size) (h45 : s[0].toNat ≠ 45) : intForm s.data.toList = decL s.data.toList true ∧ intVal s.data.toList = (valL s.data.toList : Int) := by
  have e := head_of h
  have hne : ¬ s[0] = 45 := fun he => h45 (by rw [he]; rfl)
  rw [e, intForm, intVal, if_neg hne, if_neg hne]
  exact ⟨rfl, rfl⟩

set_option maxHeartbeats 4000000 in
set_option maxRecDepth 100000 in
theorem rreadint_any (s : ByteArray) (w : World) (hs : s.size ≤ 1000000) :
    Calls Tryd.prog 30 #[.string s] w fun e w' => e = .returned (.tuple #[.int .i64 (readIntP s).1, .int .i64 (readIntP s).2]) ∧ Below w.heap.size w w' := by
  by_cases h0 : s.size = 0
  · obtain rfl : s = ⟨#[]⟩ := by
      apply ByteArray.ext; apply Array.toList_inj.1
      exact List.eq_nil_of_length_eq_zero (by simpa using h0)
    have hG := Lib.hid (readInt_form (s := ⟨#[]⟩) rfl)
    have hdc : Hid (decL (⟨#[]⟩ : ByteArray).data.toList true = false) := Lib.hid rfl
    clear h0
    go_enter Tryd.func30, Tryd.ntmps30
    go_wp2_with fail
    refine (decimal_form ⟨#[]⟩ true _ (by decide)).mono ?_
    rintro e w1 ⟨rfl, rfl⟩
    rw [hdc.out]
    go_wp2_with fail
    go_ret2
    exact ⟨ret_pp hG.out, Below.refl _ _⟩
  · have hp : 0 < s.size := by omega
    clear h0
    have hcs : (∃ t : ByteArray, t = s.extract 1 s.size ∧ ((s[0].toNat : Int) == 45) = true ∧ intForm s.data.toList = decL t.data.toList false ∧ intVal s.data.toList = -(valL t.data.toList : Int)) ∨ (((s[0].toNat : Int) == 45) = false ∧ intForm s.data.toList = decL s.data.toList true ∧ intVal s.data.toList = (valL s.data.toList : Int)) := by
      by_cases h45 : s[0].toNat = 45
      · exact .inl ⟨_, rfl, by rw [h45]; rfl, int_minus hp h45⟩
      · exact .inr ⟨by rw [beq_eq_false_iff_ne]; omega, int_plus hp h45⟩
    rcases hcs with ⟨t, rfl, hb, hf, hv⟩ | ⟨hb, hf, hv⟩
    · have hF : Hid (decL (s.extract 1 s.size).data.toList false = false → readIntP s = (0, 4)) := Lib.hid (fun h => readInt_form (hf.trans h))
      have hO : Hid (decL (s.extract 1 s.size).data.toList false = true → ¬ inInt (-(valL (s.extract 1 s.size).data.toList : Int)) → readIntP s = (0, 27)) := Lib.hid (fun h hr => readInt_range (hf.trans h) (by rw [hv]; exact hr))
      have hK : Hid (decL (s.extract 1 s.size).data.toList false = true → inInt (-(valL (s.extract 1 s.size).data.toList : Int)) → readIntP s = (-(valL (s.extract 1 s.size).data.toList : Int), 0)) := Lib.hid (fun h hr => by rw [readInt_ok (hf.trans h) (by rw [hv]; exact hr), hv])
      clear hf hv
      generalize readIntP s = Z at *
      have hdf := fun wq => decimal_form (s.extract 1 s.size) false wq (by have : (s.extract 1 s.size).size ≤ s.size := (by simp [ByteArray.size_extract]); omega)
      cases hdc : decL ((s.extract 1 s.size)).data.toList false with
      | false =>
        have hG := Lib.hid (hF.out hdc)
        simp only [hdc] at hdf
        clear hdc
        go_enter Tryd.func30, Tryd.ntmps30
        go_wp2_with fail
        refine (Calls.mono (hdf _) ?_)
        rintro e w1 ⟨rfl, rfl⟩
        go_wp2_with fail
        go_ret2
        exact ⟨ret_pp hG.out, Below.refl _ _⟩
      | true =>
        have HDg := Lib.hid (decL_digits hdc).2
        have HO := Lib.hid (hO.out hdc)
        have HK := Lib.hid (hK.out hdc)
        simp only [hdc] at hdf
        clear hdc hF hO hK
        go_enter Tryd.func30, Tryd.ntmps30
        go_wp2_with fail
        refine (Calls.mono (hdf _) ?_)
        rintro e w1 ⟨rfl, rfl⟩
        go_wp2_with fail
        generalize ht : s.extract 1 s.size = t at *
        have htz : t.size ≤ s.size := by rw [← ht]; simp [ByteArray.size_extract]
        clear ht
        go_loop [7, 8, 9] (fun n i _ => ∃ k m : Nat, k ≤ t.size ∧ i = .int .i64 k ∧ n = .int .i64 (-(m : Int)) ∧ m ≤ 9223372036854775808 ∧ Hid (valL (t.data.toList.take k) = m)) (fun _ i _ => t.size - (intOf i).toNat)
        case atStart => exact ⟨0, 0, Nat.zero_le _, rfl, rfl, by omega, Lib.hid rfl⟩
        case round =>
          obtain ⟨k, m, hk, rfl, rfl, hm, HM⟩ := hrel
          by_cases hlt : k < t.size
          · have hdg := HDg.out _ (List.getElem_mem (show k < t.data.toList.length by simpa using hlt))
            have HV := Lib.hid (val_take hlt)
            have HW := Lib.hid (val_all t.data.toList (k + 1))
            obtain ⟨c, hc⟩ : ∃ c, t[k].toNat = c := ⟨_, rfl⟩
            have hc1 : 48 ≤ c ∧ c ≤ 57 := hc ▸ hdg
            have HC := Lib.hid hc
            obtain ⟨d, rfl⟩ : ∃ d, c = 48 + d := ⟨c - 48, by omega⟩
            have hd9 : d ≤ 9 := by omega
            clear hdg hc1
            have e1 : (48 : Int) + (d : Int) - 48 = (d : Int) := by omega
            obtain ⟨q, hq⟩ : ∃ q, (9223372036854775808 - d) / 10 = q := ⟨_, rfl⟩
            have HQ := Lib.hid hq
            have hq0 : q ≤ 922337203685477580 := by omega
            have e2 : (-9223372036854775808 + (d : Int)).tdiv 10 = -(q : Int) := by
              rw [show -9223372036854775808 + (d : Int) = -((9223372036854775808 - d : Nat) : Int) by omega, Int.neg_tdiv, Int.tdiv_eq_ediv_of_nonneg (by omega), ← hq]; rfl
            clear hq
            by_cases hlim : q < m
            · have hG := Lib.hid (HO.out (by
                have h1 := HV.out
                have h2 := HW.out
                have h3 := HQ.out
                rw [HM.out, HC.out] at h1
                have := notIn (v := valL t.data.toList) (by omega)
                exact this.2))
              go_wp2_with fail
              go_ret2
              exact ⟨ret_pp hG.out, Below.refl _ _⟩
            · have hm10 : 10 * m + d ≤ 9223372036854775808 := by have := HQ.out; omega
              have hl2 : m ≤ q := by omega
              have hl3 : ¬ -(m : Int) < -(q : Int) := by omega
              clear hlim
              have HM1 : Hid (valL (t.data.toList.take (k + 1)) = 10 * m + d) := Lib.hid (by
                have h1 := HV.out
                rw [HM.out, HC.out] at h1
                omega)
              go_wp2_with fail
              exact ⟨⟨k + 1, 10 * m + d, hlt, by go_num, congrArg (Value.int .i64) (by omega), hm10, HM1⟩, by simp [intOf]; omega⟩
          · have HM1 : Hid (valL t.data.toList = m) := Lib.hid (by have h := HM.out; rwa [List.take_of_length_le (by simp; have : t.size = t.data.size := rfl; omega)] at h)
            have hG := Lib.hid (HK.out (by rw [HM1.out]; exact yesIn hm))
            rw [HM1.out] at hG
            go_wp2_with fail
            go_ret2
            exact ⟨ret_pp hG.out, Below.refl _ _⟩
    · have hF : Hid (decL s.data.toList true = false → readIntP s = (0, 4)) := Lib.hid (fun h => readInt_form (hf.trans h))
      have hO : Hid (decL s.data.toList true = true → ¬ inInt (valL s.data.toList : Int) → readIntP s = (0, 27)) := Lib.hid (fun h hr => readInt_range (hf.trans h) (by rw [hv]; exact hr))
      have hK : Hid (decL s.data.toList true = true → inInt (valL s.data.toList : Int) → readIntP s = ((valL s.data.toList : Int), 0)) := Lib.hid (fun h hr => by rw [readInt_ok (hf.trans h) (by rw [hv]; exact hr), hv])
      clear hf hv
      generalize readIntP s = Z at *
      have hdf := fun wq => decimal_form s true wq (by skip; omega)
      cases hdc : decL (s).data.toList true with
      | false =>
        have hG := Lib.hid (hF.out hdc)
        simp only [hdc] at hdf
        clear hdc
        go_enter Tryd.func30, Tryd.ntmps30
        go_wp2_with fail
        refine (Calls.mono (hdf _) ?_)
        rintro e w1 ⟨rfl, rfl⟩
        go_wp2_with fail
        go_ret2
        exact ⟨ret_pp hG.out, Below.refl _ _⟩
      | true =>
        have HDg := Lib.hid (decL_digits hdc).2
        have HO := Lib.hid (hO.out hdc)
        have HK := Lib.hid (hK.out hdc)
        simp only [hdc] at hdf
        clear hdc hF hO hK
        go_enter Tryd.func30, Tryd.ntmps30
        go_wp2_with fail
        refine (Calls.mono (hdf _) ?_)
        rintro e w1 ⟨rfl, rfl⟩
        go_wp2_with fail
        go_loop [7, 8, 9] (fun n i _ => ∃ k m : Nat, k ≤ s.size ∧ i = .int .i64 k ∧ n = .int .i64 (-(m : Int)) ∧ m ≤ 9223372036854775808 ∧ Hid (valL (s.data.toList.take k) = m)) (fun _ i _ => s.size - (intOf i).toNat)
        case atStart => exact ⟨0, 0, Nat.zero_le _, rfl, rfl, by omega, Lib.hid rfl⟩
        case round =>
          obtain ⟨k, m, hk, rfl, rfl, hm, HM⟩ := hrel
          by_cases hlt : k < s.size
          · have hdg := HDg.out _ (List.getElem_mem (show k < s.data.toList.length by simpa using hlt))
            have HV := Lib.hid (val_take hlt)
            have HW := Lib.hid (val_all s.data.toList (k + 1))
            obtain ⟨c, hc⟩ : ∃ c, s[k].toNat = c := ⟨_, rfl⟩
            have hc1 : 48 ≤ c ∧ c ≤ 57 := hc ▸ hdg
            have HC := Lib.hid hc
            obtain ⟨d, rfl⟩ : ∃ d, c = 48 + d := ⟨c - 48, by omega⟩
            have hd9 : d ≤ 9 := by omega
            clear hdg hc1
            have e1 : (48 : Int) + (d : Int) - 48 = (d : Int) := by omega
            obtain ⟨q, hq⟩ : ∃ q, (9223372036854775808 - d) / 10 = q := ⟨_, rfl⟩
            have HQ := Lib.hid hq
            have hq0 : q ≤ 922337203685477580 := by omega
            have e2 : (-9223372036854775808 + (d : Int)).tdiv 10 = -(q : Int) := by
              rw [show -9223372036854775808 + (d : Int) = -((9223372036854775808 - d : Nat) : Int) by omega, Int.neg_tdiv, Int.tdiv_eq_ediv_of_nonneg (by omega), ← hq]; rfl
            clear hq
            by_cases hlim : q < m
            · have hG := Lib.hid (HO.out (by
                have h1 := HV.out
                have h2 := HW.out
                have h3 := HQ.out
                rw [HM.out, HC.out] at h1
                have := notIn (v := valL s.data.toList) (by omega)
                exact this.1))
              go_wp2_with fail
              go_ret2
              exact ⟨ret_pp hG.out, Below.refl _ _⟩
            · have hm10 : 10 * m + d ≤ 9223372036854775808 := by have := HQ.out; omega
              have hl2 : m ≤ q := by omega
              have hl3 : ¬ -(m : Int) < -(q : Int) := by omega
              clear hlim
              have HM1 : Hid (valL (s.data.toList.take (k + 1)) = 10 * m + d) := Lib.hid (by
                have h1 := HV.out
                rw [HM.out, HC.out] at h1
                omega)
              go_wp2_with fail
              exact ⟨⟨k + 1, 10 * m + d, hlt, by go_num, congrArg (Value.int .i64) (by omega), hm10, HM1⟩, by simp [intOf]; omega⟩
          · have HM1 : Hid (valL s.data.toList = m) := Lib.hid (by have h := HM.out; rwa [List.take_of_length_le (by simp; have : s.size = s.data.size := rfl; omega)] at h)
            by_cases hl : m = 9223372036854775808
            · have hG := Lib.hid (HO.out (by rw [HM1.out, hl]; exact notIn2))
              have hb2 : ((-(m : Int)) == -9223372036854775808) = true := by rw [beq_iff_eq]; omega
              clear hl
              go_wp2_with fail
              go_ret2
              exact ⟨ret_pp hG.out, Below.refl _ _⟩
            · have hG := Lib.hid (HK.out (by rw [HM1.out]; exact yesIn2 hm hl))
              rw [HM1.out] at hG
              have hb2 : ((-(m : Int)) == -9223372036854775808) = false := by rw [beq_eq_false_iff_ne]; omega
              have hm2 : m < 9223372036854775808 := by omega
              clear hl
              go_wp2_with fail
              go_ret2
              exact ⟨ret_pp hG.out, Below.refl _ _⟩
end Go.Proofs.YtnkblimmlkidcaaDoor
