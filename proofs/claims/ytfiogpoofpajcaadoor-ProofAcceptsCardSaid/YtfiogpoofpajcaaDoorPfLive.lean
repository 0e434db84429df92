/- identitylaw28.live returns true. -/
import Derived.Test.YtfiogpoofpajcaaDoorPfLaws
namespace Go.Proofs.YtfiogpoofpajcaaDoor
open Go.RowKit

def letters : ByteArray := ⟨#[97, 97, 97, 97, 97, 97, 97, 97, 97, 97, 97, 97, 97, 97, 97, 97, 97, 97, 97, 97, 97, 97, 97, 97, 97, 97, 97, 97, 97, 97, 97, 97, 97, 97, 97, 97, 97, 97, 97, 97, 97, 97, 97]⟩
theorem lv_valid : validS letters = true := by decide +kernel
theorem lv_valid42 : validS (letters.extract 0 42) = false := by decide +kernel
theorem lv_valid0 : validS ⟨#[]⟩ = false := by decide +kernel
theorem lv_ch1 : challengeS 1 letters = (⟨#[97, 97, 97, 97, 97, 97, 97, 97, 97, 97, 97, 97, 97, 97, 97, 97, 97, 97, 97, 97, 97, 97, 97, 97, 97, 97, 97, 97, 97, 97, 97, 97, 97, 97, 97, 97, 97, 97, 97, 97, 97, 97, 97]⟩, 0) := by
  have : challengeS 1 letters = (letters, 0) := by simp [challengeS, lv_valid]
  exact this
theorem lv_ch3 : challengeS 3 ⟨#[]⟩ = (⟨#[]⟩, 2) := by simp [challengeS]
theorem lv_ch42 : challengeS 1 (letters.extract 0 42) = (⟨#[]⟩, 4) := by simp [challengeS, lv_valid42]
theorem lv_plain1 : plainS ⟨#[115, 49]⟩ = true := by decide +kernel
theorem lv_plain2 : plainS ⟨#[114, 49]⟩ = true := by decide +kernel
theorem lv_plain3 : plainS ⟨#[97, 46, 98]⟩ = false := by decide +kernel
def lvCode : ByteArray := codeS ⟨#[107]⟩ ⟨#[115, 49]⟩ ⟨#[114, 49]⟩
theorem lv_app : (⟨#[114, 49]⟩ : ByteArray) ++ ⟨#[46]⟩ = ⟨#[114, 49, 46]⟩ := by decide
def lvSt : ByteArray := (⟨#[114, 49, 46]⟩ : ByteArray) ++ lvCode
theorem lv_bind : bindS ⟨#[107]⟩ ⟨#[115, 49]⟩ ⟨#[114, 49]⟩ = lvSt := by
  rw [bindS, if_pos ⟨lv_plain1, lv_plain2⟩, lv_app]; rfl
theorem lv_size : lvSt.size = 19 := by
  have h2 : (⟨#[114, 49, 46]⟩ : ByteArray).size = 3 := rfl
  rw [lvSt, ByteArray.size_append, h2, lvCode, code_size]
theorem lv_bound : boundP ⟨#[107]⟩ ⟨#[115, 49]⟩ lvSt = (⟨#[114, 49]⟩, 0) := by
  rw [← lv_bind]
  exact bound_bind (by rw [lv_bind]; intro h; have := congrArg ByteArray.size h; rw [lv_size] at this; cases this)
theorem lv_bound2 : boundP ⟨#[107]⟩ ⟨#[115, 49]⟩ ⟨#[114, 49]⟩ = (⟨#[]⟩, 4) := by
  have h : cutOk ⟨#[114, 49]⟩ 46 = false := by decide +kernel
  rw [boundP, h, if_neg (by rintro ⟨h, _⟩; cases h)]
theorem lv_bind3 : bindS ⟨#[107]⟩ ⟨#[115, 49]⟩ ⟨#[97, 46, 98]⟩ = ⟨#[]⟩ := by
  rw [bindS, if_neg (by rintro ⟨_, h⟩; rw [lv_plain3] at h; cases h)]
theorem lv_cut : lvSt.extract 0 3 = ⟨#[114, 49, 46]⟩ := by
  apply ByteArray.ext; apply Array.toList_inj.1
  rw [ext_front]; simp [lvSt, ByteArray.data_append]
theorem lv_small : lvSt.size ≤ 400 := by rw [lv_size]; decide
attribute [irreducible] lvSt
theorem lv_uniq : textS (uniqT ⟨#[115]⟩ 1) ≠ textS (uniqT ⟨#[115]⟩ 2) := by
  unfold textS
  decide +kernel
theorem lv_uniq2 : ((uniqueS ⟨#[115]⟩ 1).toList == (uniqueS ⟨#[115]⟩ 2).toList) = false := str_ne (fun h => lv_uniq ((uniq_eq _ _ _ _).1 h))
theorem lv_check : checkS 1 ⟨#[]⟩ letters = 20 := by
  rw [checkS, lv_ch1]; decide +kernel

set_option maxHeartbeats 1000000 in
theorem live_any (w : World) (hd : DigOk w) (hp : PowOk w) :
    Calls Tryd.prog 10 #[] w fun e w' => e = .returned (.bool true) ∧ Below w.heap.size w w' := by
  go_enter Tryd.func10, Tryd.ntmps10
  go_wp2_with fail
  refine (challenge_any 1 letters _ hd (by decide) (by decide) (by decide)).mono ?_
  rintro e w1 ⟨rfl, hb1⟩
  rw [lv_ch1]
  have H1 := Lib.hid hb1
  clear hb1
  go_wp2_with fail
  refine (challenge_any 3 ⟨#[]⟩ _ (hd.below H1.out) (by decide) (by decide) (by decide)).mono ?_
  rintro e w2 ⟨rfl, hb2⟩
  rw [lv_ch3]
  have H2 := Lib.hid (bthen H1.out hb2)
  clear hb2
  go_wp2_with fail
  refine (challenge_any 1 (letters.extract 0 42) _ (hd.below H2.out) (by decide) (by decide) (by decide +kernel)).mono ?_
  rintro e w3 ⟨rfl, hb3⟩
  rw [lv_ch42]
  have H3 := Lib.hid (bthen H2.out hb3)
  clear hb3
  go_wp2_with fail
  refine (bind_any ⟨#[107]⟩ ⟨#[115, 49]⟩ ⟨#[114, 49]⟩ _ (hd.below H3.out) (hp.below H3.out) (by decide) (by decide) (by decide)).mono ?_
  rintro e w4 ⟨rfl, hb4⟩
  rw [lv_bind]
  have H4 := Lib.hid (bthen H3.out hb4)
  clear hb4
  go_wp2_with fail
  refine (bound_any ⟨#[107]⟩ ⟨#[115, 49]⟩ lvSt _ (hd.below H4.out) (hp.below H4.out) (by decide) (by decide) lv_small).mono ?_
  rintro e w5 ⟨rfl, hb5⟩
  rw [lv_bound]
  have H5 := Lib.hid (bthen H4.out hb5)
  clear hb5
  go_wp2_with fail
  refine (bound_any ⟨#[107]⟩ ⟨#[115, 49]⟩ ⟨#[114, 49]⟩ _ (hd.below H5.out) (hp.below H5.out) (by decide) (by decide) (by decide)).mono ?_
  rintro e w6 ⟨rfl, hb6⟩
  rw [lv_bound2]
  have H6 := Lib.hid (bthen H5.out hb6)
  clear hb6
  go_wp2_with fail
  refine (valid_any letters _ (by decide)).mono ?_
  rintro e w7 ⟨rfl, rfl⟩
  rw [lv_valid]
  go_wp2_with fail
  refine (valid_any ⟨#[]⟩ _ (by decide)).mono ?_
  rintro e w7 ⟨rfl, rfl⟩
  rw [lv_valid0]
  have hs := lv_size
  have hc := lv_cut
  go_wp2_with fail
  refine (bind_any ⟨#[107]⟩ ⟨#[115, 49]⟩ ⟨#[97, 46, 98]⟩ _ (hd.below H6.out) (hp.below H6.out) (by decide) (by decide) (by decide)).mono ?_
  rintro e w7 ⟨rfl, hb7⟩
  rw [lv_bind3]
  have H7 := Lib.hid (bthen H6.out hb7)
  clear hb7 hs hc
  have hu := lv_uniq2
  have hz := (uniq_word ⟨#[]⟩ 0).2
  have hz2 : (((uniqueS ⟨#[]⟩ 0).size : Int) == 17) = true := by rw [hz]; rfl
  clear hz
  go_wp2_with fail
  refine (unique_any ⟨#[115]⟩ 1 _ (hd.below H7.out) (hp.below H7.out) (by decide) (by decide) (by decide)).mono ?_
  rintro e w8 ⟨rfl, hb8⟩
  have H8 := Lib.hid (bthen H7.out hb8)
  clear hb8
  go_wp2_with fail
  refine (unique_any ⟨#[115]⟩ 2 _ (hd.below H8.out) (hp.below H8.out) (by decide) (by decide) (by decide)).mono ?_
  rintro e w9 ⟨rfl, hb9⟩
  have H9 := Lib.hid (bthen H8.out hb9)
  clear hb9
  go_wp2_with fail
  refine (unique_any ⟨#[]⟩ 0 _ (hd.below H9.out) (hp.below H9.out) (by decide) (by decide) (by decide)).mono ?_
  rintro e w10 ⟨rfl, hb10⟩
  have H10 := Lib.hid (bthen H9.out hb10)
  clear hb10
  go_wp2_with fail
  refine (check_any 1 ⟨#[]⟩ letters _ (hd.below H10.out) (by decide) (by decide) (by decide)).mono ?_
  rintro e w11 ⟨rfl, hb11⟩
  rw [lv_check]
  have H11 := Lib.hid (bthen H10.out hb11)
  clear hb11
  go_wp2_with fail
  go_ret
  exact ⟨rfl, H11.out⟩
end Go.Proofs.YtfiogpoofpajcaaDoor
