/- The chapter's examples. -/
import Derived.Test.YtkhdhelhkokdcaaDoorJrnAJ
import Derived.Test.YtkhdhelhkokdcaaDoorJrnAwakeP
import Derived.Test.YtkhdhelhkokdcaaDoorSame03
namespace Go.Proofs.YtkhdhelhkokdcaaDoor
open Go.RowKit

theorem enc_ab : encS ⟨#[97, 98]⟩ = ⟨#[50, 58, 97, 98]⟩ ++ textS ⟨#[97, 98]⟩ ++ ⟨#[10]⟩ := by
  have e : itoaS ((⟨#[97, 98]⟩ : ByteArray).size : Int) = ⟨#[50]⟩ := by
    rw [show ((⟨#[97, 98]⟩ : ByteArray).size : Int) = 2 from rfl]; decide +kernel
  rw [encS, e]
  apply ByteArray.ext
  simp [ByteArray.data_append]
theorem aw_dec {l : List ByteArray} {n : Nat} (h : Dec (encS ⟨#[97, 98]⟩ ++ ⟨#[50, 58, 97]⟩) l n) : l = [⟨#[97, 98]⟩] ∧ n = 21 := by
  have h2 := h.one (dec_of (l := [⟨#[97, 98]⟩]) (x := [50, 58, 97]) (by simp [encL]) (by simp) (fun r hr => by rw [List.mem_singleton] at hr; subst hr; decide))
  refine ⟨h2.1, h2.2.trans ?_⟩
  have := enc_two 97 98
  simp [encL, this]
theorem dec_empty {l : List ByteArray} {n : Nat} (h : Dec ⟨#[]⟩ l n) : l = [] := by
  have h2 := h.len.1
  have h3 := h.le
  have : (⟨#[]⟩ : ByteArray).size = 0 := rfl
  exact List.eq_nil_of_length_eq_zero (by omega)
/-- A list that is written out. -/
theorem strs_new (w : World) (l : List ByteArray) : Strs (w.alloc (.cells (strVs l).toArray 9)) (some ⟨w.heap.size, 0, none⟩) l := by
  intro i hi
  refine ⟨w.heap.size, 0, rfl, ?_⟩
  rw [Nat.zero_add, cell_of_row _ _ i (strVs l).toArray 9 (0, 0) (heap_alloc_new w _)]
  rw [← strVs_at l i hi]; simp
set_option maxHeartbeats 4000000 in
set_option maxRecDepth 100000 in
theorem awake_any (w : World) (hd : DigOk w) (hp : PowOk w) (hE : ErrsOk w) :
    Calls Tryd.prog 9 #[] w fun e w' => e = .returned (.bool true) ∧ Below w.heap.size w w' := by
  have hts := textS_size ⟨#[97, 98]⟩
  have hez := enc_two 97 98
  have HEE := Lib.hid enc_ab
  have HAD : Hid (∀ l n, Dec (encS ⟨#[97, 98]⟩ ++ ⟨#[50, 58, 97]⟩) l n → l = [⟨#[97, 98]⟩] ∧ n = 21) := Lib.hid (fun l n h => aw_dec h)
  have HBY : Hid (encB [⟨#[97, 98]⟩, ⟨#[100]⟩] = encS ⟨#[97, 98]⟩ ++ encS ⟨#[100]⟩) := Lib.hid (by apply ByteArray.ext; simp [encB, encL, ByteArray.data_append])
  have hez2 := enc_one 100
  obtain ⟨E, HE1⟩ : ∃ E, Hid (encS ⟨#[97, 98]⟩ = E) := ⟨_, Lib.hid rfl⟩
  obtain ⟨E2, HE2⟩ : ∃ E, Hid (encS ⟨#[100]⟩ = E) := ⟨_, Lib.hid rfl⟩
  obtain ⟨T, HT⟩ : ∃ T, Hid (textS ⟨#[97, 98]⟩ = T) := ⟨_, Lib.hid rfl⟩
  rw [HE1.out] at hez HAD HEE HBY
  rw [HE2.out] at hez2 HBY
  rw [HT.out] at hts HEE
  have hq1 : (E.toList == (⟨#[50, 58, 97, 98]⟩ ++ T ++ ⟨#[10]⟩ : ByteArray).toList) = true := by rw [← HEE.out]; simp
  have hq1' : (E.toList != (⟨#[50, 58, 97, 98]⟩ ++ T ++ ⟨#[10]⟩ : ByteArray).toList) = false := by rw [← HEE.out]; simp
  have hE21 : ((E.size : Int) != 21) = false := by rw [hez]; rfl
  have hez' : E.size ≤ 21 := by omega
  have hts' : T.size ≤ 16 := by omega
  have hez2' : E2.size ≤ 20 := by omega
  have hXZ : (E ++ ⟨#[50, 58, 97]⟩ : ByteArray).size ≤ 1000000 := by rw [ByteArray.size_append, hez]; decide
  have HXZ := Lib.hid hXZ
  clear hXZ hez hts hez2
  obtain ⟨X, HX⟩ : ∃ X : ByteArray, Hid (E ++ ⟨#[50, 58, 97]⟩ = X) := ⟨_, Lib.hid rfl⟩
  rw [HX.out] at HXZ HAD
  go_enter Tryd.func9, Tryd.ntmps9
  go_wp2_with fail
  refine (enc_any ⟨#[97, 98]⟩ _ hd hp (by decide)).mono ?_
  rintro e w1 ⟨rfl, hb1⟩
  rw [HE1.out]
  have B1 := Lib.hid hb1
  clear hb1
  go_wp2_with fail
  refine (text_any ⟨#[97, 98]⟩ _ (hd.below B1.out) (by decide)).mono ?_
  rintro e w2 ⟨rfl, hb2⟩
  rw [HT.out]
  have B2 := Lib.hid (bthen B1.out hb2)
  clear hb2
  go_wp2_with fail
  rw [HX.out]
  refine (decode_any X _ (hd.below B2.out) (hp.below B2.out) (hE.below B2.out) HXZ.out).mono ?_
  rintro e w3 ⟨⟨v3, l3, n3, rfl, hown3, hD3, _⟩, hb3⟩
  obtain ⟨rfl, rfl⟩ := HAD.out _ _ hD3
  obtain ⟨q, cq, rfl, _, _⟩ := hown3.form (by decide)
  have hcl : w3.cell? ⟨q, 0, none⟩ = some (.string ⟨#[97, 98]⟩) := by
    obtain ⟨b', o', e', hc'⟩ := (Strs.own hown3 rfl (strVs_at _)) 0 (by decide)
    injection e' with e'; injection e' with e1 e2
    subst e1; subst e2
    exact hc'
  have B3 := Lib.hid (bthen B2.out hb3)
  have HCL := Lib.hid hcl
  clear hb3 hown3 hD3 hcl
  go_wp2_with fail
  refine (aj_new w _ B3.out).mono ?_
  rintro e w4 ⟨⟨g, v4, rfl, hj4, _, _⟩, hb4⟩
  have J4 := Lib.hid hj4
  have hcl4 := (hb4.cell (World.block_lt_of_cell? _ _ HCL.out)).trans HCL.out
  have HCL4 := Lib.hid hcl4
  have B4 := Lib.hid (bthen B3.out hb4)
  clear hb4 hj4 hcl4
  go_wp2_with fail
  refine (aj_open ⟨#[]⟩ w _ B4.out (hd.below B4.out) (hp.below B4.out) (hE.below B4.out) (by decide)).mono ?_
  rintro e w5 ⟨⟨l5, n5, hD5, g5, v5, rfl, hj5, _, _⟩, hb5⟩
  obtain rfl := dec_empty hD5
  have J5 := Lib.hid hj5
  have J45 := Lib.hid (J4.out.below hb5)
  have hcl5 := (hb5.cell (World.block_lt_of_cell? _ _ HCL4.out)).trans HCL4.out
  have B5 := Lib.hid (bthen B4.out hb5)
  clear hb5 hj5 hD5
  go_wp2_with fail
  refine (aj_durable w _ _ _ _ _ J5.out).mono ?_
  rintro e w6 ⟨rfl, rfl⟩
  clear hcl5
  go_wp2_with fail
  refine (aj_append ⟨#[97, 98]⟩ w _ _ _ _ _ J45.out (by decide) (by decide)).mono ?_
  rintro e w6 ⟨rfl, v6, hj6, _, _⟩
  have J6 := Lib.hid hj6
  clear hj6
  go_wp2_with fail
  refine (aj_append ⟨#[99]⟩ w _ _ _ _ _ J6.out (by decide) (by decide)).mono ?_
  rintro e w7 ⟨rfl, v7, hj7, _, _⟩
  have J7 := Lib.hid hj7
  clear hj7
  go_wp2_with fail
  refine (aj_durable w _ _ _ _ _ J7.out).mono ?_
  rintro e w8 ⟨rfl, rfl⟩
  go_wp2_with fail
  refine (aj_crash 25 w _ (hd.below J7.out.2) (hp.below J7.out.2) (hE.below J7.out.2) _ _ _ _ J7.out (by decide)).mono ?_
  rintro e w8 ⟨rfl, m8, hm8, v8, hj8, _, _⟩
  obtain rfl := aw_left hm8
  have J8 : Hid (AJ w w8 g v8 [⟨#[97, 98]⟩] 1) := Lib.hid hj8
  clear hj8 hm8
  go_wp2_with fail
  refine (aj_records w _ _ _ _ _ J8.out (by decide)).mono ?_
  rintro e w9 ⟨⟨A9, c9, rfl, hs9, hA9⟩, hb9⟩
  have J9 := Lib.hid (J8.out.below hb9)
  have HS9 := Lib.hid hs9
  have HP9 : Hid (Apart A9 w9 g v8) := Lib.hid (Apart.new J8.out hA9 (fun p hp => by
    obtain ⟨b', o', e', hc'⟩ := hs9 0 (by decide)
    rw [e'] at hp; cases hp
    exact World.block_lt_of_cell? _ _ hc'))
  clear hb9 hs9 hA9
  go_wp2_with fail
  refine (aj_append ⟨#[100]⟩ w _ _ _ _ _ J9.out (by decide) (by decide)).mono ?_
  rintro e w10 ⟨rfl, v10, hj10, ho10, hf10⟩
  have J10 := Lib.hid hj10
  have HS10 := Lib.hid (HS9.out.apart HP9.out ho10)
  have HP10 := Lib.hid (HP9.out.step ho10.size hf10)
  clear hj10 ho10 hf10
  go_wp2_with fail
  refine (aj_sync w _ _ _ _ _ J10.out).mono ?_
  rintro e w11 ⟨rfl, v11, hj11, ho11, hf11⟩
  have J11 := Lib.hid hj11
  have HS11 := Lib.hid (HS10.out.apart HP10.out ho11)
  have HP11 := Lib.hid (HP10.out.step ho11.size hf11)
  clear hj11 ho11 hf11
  go_wp2_with fail
  refine (aj_append ⟨#[101]⟩ w _ _ _ _ _ J11.out (by decide) (by decide)).mono ?_
  rintro e w12 ⟨rfl, v12, hj12, ho12, hf12⟩
  have J12 := Lib.hid hj12
  have HS12 := Lib.hid (HS11.out.apart HP11.out ho12)
  have HP12 := Lib.hid (HP11.out.step ho12.size hf12)
  clear hj12 ho12 hf12
  go_wp2_with fail
  refine (aj_crash (-1) w _ (hd.below J12.out.2) (hp.below J12.out.2) (hE.below J12.out.2) _ _ _ _ J12.out (by decide)).mono ?_
  rintro e w13 ⟨rfl, m13, hm13, v13, hj13, ho13, hf13⟩
  obtain rfl := left_zero hm13 (by decide)
  have J13 : Hid (AJ w w13 g v13 [⟨#[97, 98]⟩, ⟨#[100]⟩] 2) := Lib.hid hj13
  have HS13 := Lib.hid (HS12.out.apart HP12.out ho13)
  clear hj13 ho13 hf13 hm13
  go_wp2_with fail
  refine (same_any [⟨#[97, 98]⟩] [⟨#[97, 98]⟩] A9 (some ⟨w13.heap.size, 0, none⟩) c9 1 _ (HS13.out.alloc _) (strs_new w13 [⟨#[97, 98]⟩]) (by decide) (by decide)).mono ?_
  rintro e w14 ⟨rfl, hb14⟩
  have J14 := Lib.hid ((J13.out.below ((Below.refl _ _).alloc (Nat.le_refl _) _)).below hb14)
  clear hb14
  go_wp2_with fail
  refine (aj_records w _ _ _ _ _ J14.out (by decide)).mono ?_
  rintro e w15 ⟨⟨A15, c15, rfl, hs15, hA15⟩, hb15⟩
  have J15 := Lib.hid (J14.out.below hb15)
  have HS15 := Lib.hid hs15
  clear hb15 hs15 hA15
  go_wp2_with fail
  refine (same_any [⟨#[97, 98]⟩, ⟨#[100]⟩] [⟨#[97, 98]⟩, ⟨#[100]⟩] A15 (some ⟨w15.heap.size, 0, none⟩) c15 2 _ (HS15.out.alloc _) (strs_new w15 [⟨#[97, 98]⟩, ⟨#[100]⟩]) (by decide) (by decide)).mono ?_
  rintro e w16 ⟨rfl, hb16⟩
  have J16 := Lib.hid ((J15.out.below ((Below.refl _ _).alloc (Nat.le_refl _) _)).below hb16)
  clear hb16
  go_wp2_with fail
  refine (aj_durable w _ _ _ _ _ J16.out).mono ?_
  rintro e w17 ⟨rfl, rfl⟩
  go_wp2_with fail
  refine (aj_bytes w _ (hd.below J16.out.2) (hp.below J16.out.2) _ _ _ _ J16.out (by decide)).mono ?_
  rintro e w17 ⟨rfl, hb17⟩
  rw [show List.take 2 [(⟨#[97, 98]⟩ : ByteArray), ⟨#[100]⟩] = [⟨#[97, 98]⟩, ⟨#[100]⟩] from rfl, HBY.out]
  have J17 := Lib.hid (J16.out.below hb17)
  clear hb17
  go_wp2_with fail
  refine (enc_any ⟨#[100]⟩ _ (hd.below J17.out.2) (hp.below J17.out.2) (by decide)).mono ?_
  rintro e w18 ⟨rfl, hb18⟩
  rw [HE2.out]
  have J18 := Lib.hid (J17.out.below hb18)
  clear hb18
  go_wp2_with fail
  refine (jappend_nil ⟨#[120]⟩ _).mono ?_
  rintro e w19 ⟨rfl, rfl⟩
  go_wp2_with fail
  go_ret
  exact ⟨rfl, J18.out.2⟩
end Go.Proofs.YtkhdhelhkokdcaaDoor
