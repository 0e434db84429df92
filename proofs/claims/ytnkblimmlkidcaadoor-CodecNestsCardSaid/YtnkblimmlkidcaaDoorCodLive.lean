/- The chapter's examples. -/
import Derived.Test.YtnkblimmlkidcaaDoorCodReadInt
import Derived.Test.YtnkblimmlkidcaaDoorCodRefInt
import Derived.Test.YtnkblimmlkidcaaDoorCodPairsW
import Derived.Test.YtnkblimmlkidcaaDoorCodReadPairs
import Derived.Test.YtnkblimmlkidcaaDoorCodSplit
import Derived.Test.YtnkblimmlkidcaaDoorCodJoin
import Derived.Test.YtnkblimmlkidcaaDoorCodR64
namespace Go.Proofs.YtnkblimmlkidcaaDoor
open Go.RowKit

theorem lv_u1 : unescS ⟨#[37, 55, 67]⟩ = ⟨#[124]⟩ := by decide +kernel
theorem lv_e1 : unescE ⟨#[37, 55, 67]⟩ = 0 := by decide +kernel
theorem lv_u2 : unescS ⟨#[37, 52, 49]⟩ = ⟨#[]⟩ := by decide +kernel
theorem lv_e2 : unescE ⟨#[37, 52, 49]⟩ = 4 := by decide +kernel
theorem lv_s1 : splitS ⟨#[97, 124, 124, 98, 37, 50, 48, 99]⟩ = [⟨#[97]⟩, ⟨#[]⟩, ⟨#[98, 32, 99]⟩] := by decide +kernel
theorem lv_t1 : splitErr ⟨#[97, 124, 124, 98, 37, 50, 48, 99]⟩ = 0 := by decide +kernel
theorem lv_s2 : splitS ⟨#[45]⟩ = [] := by decide +kernel
theorem lv_t2 : splitErr ⟨#[45]⟩ = 0 := by decide +kernel
theorem lv_i1 : (readIntP ⟨#[45, 49, 50]⟩).1 = -12 := by decide +kernel
theorem lv_j1 : (readIntP ⟨#[45, 49, 50]⟩).2 = 0 := by decide +kernel
theorem lv_i2 : (readIntP ⟨#[48, 48, 55]⟩).1 = 0 := by decide +kernel
theorem lv_j2 : (readIntP ⟨#[48, 48, 55]⟩).2 = 4 := by decide +kernel
theorem lv_b1 : readB64S ⟨#[81, 87, 53, 117, 73, 81]⟩ = ⟨#[65, 110, 110, 33]⟩ := by decide +kernel
theorem lv_c1 : readB64Err ⟨#[81, 87, 53, 117, 73, 81]⟩ = 0 := by decide +kernel
theorem lv_p1 : readPairsS ⟨#[97, 61, 49, 124, 98, 61, 120, 37, 51, 68, 121]⟩ = [(⟨#[97]⟩, ⟨#[49]⟩), (⟨#[98]⟩, ⟨#[120, 61, 121]⟩)] := by decide +kernel
theorem lv_q1 : readPairsErr ⟨#[97, 61, 49, 124, 98, 61, 120, 37, 51, 68, 121]⟩ = 0 := by decide +kernel
theorem lv_x1 : escS ⟨#[97, 32, 98, 61, 49]⟩ = ⟨#[97, 37, 50, 48, 98, 37, 51, 68, 49]⟩ := by decide +kernel
theorem lv_y1 : joinS [⟨#[97]⟩, ⟨#[]⟩, ⟨#[98, 32, 99]⟩] = ⟨#[97, 124, 124, 98, 37, 50, 48, 99]⟩ := by decide +kernel
theorem lv_z1 : itoaS (-12) = ⟨#[45, 49, 50]⟩ := by decide +kernel
theorem lv_w1 : b64S ⟨#[65, 110, 110, 33]⟩ = ⟨#[81, 87, 53, 117, 73, 81]⟩ := by decide +kernel
theorem lv_v1 : pairsS [(⟨#[97]⟩, ⟨#[49]⟩), (⟨#[98]⟩, ⟨#[120, 61, 121]⟩)] = ⟨#[97, 61, 49, 124, 98, 61, 120, 37, 51, 68, 121]⟩ := by decide +kernel

set_option maxHeartbeats 4000000 in
set_option maxRecDepth 100000 in
theorem live_any (w : World) (hp : PowOk w) (hE : ErrsOk w) :
    Calls Tryd.prog 12 #[] w fun e w' => e = .returned (.bool true) ∧ Below w.heap.size w w' := by
  go_enter Tryd.func12, Tryd.ntmps12
  have hb0 := Lib.hid (Below.refl w.heap.size w)
  go_wp2_with fail
  refine (unesc_any ⟨#[37, 55, 67]⟩ _ (by decide)).mono ?_
  rintro e w1 ⟨rfl, hq1⟩
  rw [lv_u1]
  rw [lv_e1]
  have hb1 := Lib.hid (bthen hb0.out hq1)
  have G1 := Lib.hid hq1
  clear hq1
  go_wp2_with fail
  refine (unesc_any ⟨#[37, 52, 49]⟩ _ (by decide)).mono ?_
  rintro e w2 ⟨rfl, hq2⟩
  rw [lv_u2]
  rw [lv_e2]
  have hb2 := Lib.hid (bthen hb1.out hq2)
  have G2 := Lib.hid hq2
  clear hq2
  go_wp2_with fail
  refine (csplit_any ⟨#[97, 124, 124, 98, 37, 50, 48, 99]⟩ _ (by decide)).mono ?_
  rintro e w3 ⟨hr3, hq3⟩
  rw [lv_s1, lv_t1] at hr3
  obtain ⟨A, cap, rfl, hS, hA, hcap⟩ := hr3
  have HS := Lib.hid hS
  clear hS hA hcap
  have hb3 := Lib.hid (bthen hb2.out hq3)
  have G3 := Lib.hid hq3
  clear hq3
  go_wp2_with fail
  refine (csplit_any ⟨#[45]⟩ _ (by decide)).mono ?_
  rintro e w4 ⟨hr4, hq4⟩
  rw [lv_s2, lv_t2] at hr4
  obtain ⟨A2, cap2, rfl, hS2, hA2, hcap2⟩ := hr4
  clear hS2 hA2 hcap2
  have hb4 := Lib.hid (bthen hb3.out hq4)
  have G4 := Lib.hid hq4
  clear hq4
  go_wp2_with fail
  refine (readint_any ⟨#[45, 49, 50]⟩ _ (by decide) (hE.below hb4.out)).mono ?_
  rintro e w5 ⟨rfl, hq5⟩
  rw [lv_i1]
  rw [lv_j1]
  have hb5 := Lib.hid (bthen hb4.out hq5)
  have G5 := Lib.hid hq5
  clear hq5
  go_wp2_with fail
  refine (readint_any ⟨#[48, 48, 55]⟩ _ (by decide) (hE.below hb5.out)).mono ?_
  rintro e w6 ⟨rfl, hq6⟩
  rw [lv_i2]
  rw [lv_j2]
  have hb6 := Lib.hid (bthen hb5.out hq6)
  have G6 := Lib.hid hq6
  clear hq6
  go_wp2_with fail
  refine (readb64_any ⟨#[81, 87, 53, 117, 73, 81]⟩ _ (by decide)).mono ?_
  rintro e w7 ⟨rfl, hq7⟩
  rw [lv_b1]
  rw [lv_c1]
  have hb7 := Lib.hid (bthen hb6.out hq7)
  have G7 := Lib.hid hq7
  clear hq7
  go_wp2_with fail
  refine (creadPairs_any ⟨#[97, 61, 49, 124, 98, 61, 120, 37, 51, 68, 121]⟩ _ (by decide)).mono ?_
  rintro e w8 ⟨hr8, hq8⟩
  rw [lv_p1, lv_q1] at hr8
  obtain ⟨A3, cap3, rfl, hS3, hA3, hcap3⟩ := hr8
  have HS3 := Lib.hid hS3
  clear hS3 hA3 hcap3
  have hb8 := Lib.hid (bthen hb7.out hq8)
  have G8 := Lib.hid hq8
  clear hq8
  go_wp2_with fail
  refine (esc_any ⟨#[97, 32, 98, 61, 49]⟩ _ (by decide)).mono ?_
  rintro e w9 ⟨rfl, hq9⟩
  rw [lv_x1]
  have hb9 := Lib.hid (bthen hb8.out hq9)
  have G9 := Lib.hid hq9
  clear hq9
  go_wp2_with fail
  refine (cjoin_any [⟨#[97]⟩, ⟨#[]⟩, ⟨#[98, 32, 99]⟩] A cap _ (((((((HS.out.below G4.out).below G5.out).below G6.out).below G7.out).below G8.out).below G9.out)) (by decide) (by decide)).mono ?_
  rintro e w10 ⟨rfl, hq10⟩
  rw [lv_y1]
  have hb10 := Lib.hid (bthen hb9.out hq10)
  have G10 := Lib.hid hq10
  clear hq10
  go_wp2_with fail
  refine (cint_any (-12) _ (by decide) (by decide) (hp.below hb10.out)).mono ?_
  rintro e w11 ⟨rfl, hq11⟩
  rw [lv_z1]
  have hb11 := Lib.hid (bthen hb10.out hq11)
  have G11 := Lib.hid hq11
  clear hq11
  go_wp2_with fail
  refine (base64_any ⟨#[65, 110, 110, 33]⟩ _ (by decide)).mono ?_
  rintro e w12 ⟨rfl, hq12⟩
  rw [lv_w1]
  have hb12 := Lib.hid (bthen hb11.out hq12)
  have G12 := Lib.hid hq12
  clear hq12
  go_wp2_with fail
  refine (cpairs_any [(⟨#[97]⟩, ⟨#[49]⟩), (⟨#[98]⟩, ⟨#[120, 61, 121]⟩)] A3 cap3 _ (((((HS3.out.below G9.out).below G10.out).below G11.out).below G12.out)) (by decide) (by decide)).mono ?_
  rintro e w13 ⟨rfl, hq13⟩
  rw [lv_v1]
  have hb13 := Lib.hid (bthen hb12.out hq13)
  have G13 := Lib.hid hq13
  clear hq13
  go_wp2_with fail
  go_ret
  exact ⟨rfl, hb13.out⟩
end Go.Proofs.YtnkblimmlkidcaaDoor
