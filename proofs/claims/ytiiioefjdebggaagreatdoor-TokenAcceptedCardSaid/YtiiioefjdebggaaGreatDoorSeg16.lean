/- Joined: TokEx, OpenStrs, OpenAt, FieldInt, KeyOpen. -/
import Derived.Test.YtiiioefjdebggaaGreatDoorSeg15
import Derived.Deep.RegionHeld3
import Derived.Deep.DeepCutAuto
import Derived.Test.YtiiioefjdebggaaGreatDoorSeg1
import Derived.SliceStrings
import Derived.Deep.Slices
import Derived.Test.YtiiioefjdebggaaGreatDoorSeg5
/- The chapter's examples: the walk. -/
namespace Go.Proofs.YtiiioefjdebggaaGreatDoor
open Go.RowKit

theorem Strs.same {w w' : World} {A : Option Addr} {l : List ByteArray} (h : Strs w A l) (hs : ∀ a s, w.cell? a = some (.string s) → w'.cell? a = some (.string s)) : Strs w' A l := by
  intro i hi
  obtain ⟨b, o, e, hc⟩ := h i hi
  exact ⟨b, o, e, hs _ _ hc⟩
theorem ClAt.same {w w' : World} {c : Cl} {q : P3} (h : ClAt w c q) (hs : ∀ a s, w.cell? a = some (.string s) → w'.cell? a = some (.string s)) : ClAt w' c q := ⟨h.aud.same hs, h.sco.same hs, h.act.same hs⟩
set_option linter.unusedSimpArgs false in
set_option linter.unusedVariables false in
set_option maxHeartbeats 16000000 in
set_option maxRecDepth 100000 in
theorem example26_any (w : World) (hd : DigOk w) (hp : PowOk w) (hk : KeysOk w) (he : ErrsOk w) :
    Calls Tryz.prog 14 #[] w fun e w' => e = .returned (.bool true) ∧ Below w.heap.size w w' := by
  have HSG := Lib.hid sm26_sign
  have HTZ := Lib.hid tok26_size
  have HTH := Lib.hid tok26_head
  have HVA := Lib.hid ver_a
  have HVB := Lib.hid ver_b
  have HVO := Lib.hid ver_o
  have HLC := Lib.hid left_c
  have HOZ := Lib.hid (otherS_size (s := tok26) (by have := tok26_size; omega))
  obtain ⟨T, HT⟩ : ∃ t, Hid (tok26 = t) := ⟨_, Lib.hid rfl⟩
  have HTT : Hid (headS ringK.id (encV sm26) ++ ⟨#[46]⟩ ++ sgnS ringK.sec (headS ringK.id (encV sm26)) = T) := Lib.hid HT.out
  rw [HTT.out] at HSG
  rw [HT.out] at HTZ HTH HVA HVB HVO HLC HOZ
  obtain ⟨O, HO⟩ : ∃ t, Hid (otherS T = t) := ⟨_, Lib.hid rfl⟩
  rw [HO.out] at HVO HOZ
  have HDw := Lib.hid hd
  have HPw := Lib.hid hp
  have HKw := Lib.hid hk
  have HEw := Lib.hid he
  clear hd hp hk he
  go_enter Tryz.func14, Tryz.ntmps14
  go_wp2_with fail
  refine (ring_any _).mono ?_
  rintro e w1 ⟨⟨g1, rfl, hr1, hg1⟩, hb1⟩
  have B1 := Lib.hid hb1
  have R1 := Lib.hid hr1
  clear hb1 hr1
  go_wp2_with fail
  refine (some26_any _).mono ?_
  rintro e w2 ⟨⟨p2, rfl, ha2, hc2⟩, hb2⟩
  have B2 := Lib.hid (bthen B1.out hb2)
  have R2 := Lib.hid (R1.out.below hb2)
  have IC2 : Hid (ClIn sm26 p2) := Lib.hid (ClIn.fits (by decide +kernel) hc2)
  have A2 := Lib.hid ha2
  clear hb2 ha2 hc2
  go_wp2_with fail
  refine (sign26_any [ringK] (some ⟨g1, 0, none⟩) 1 sm26 p2 50 _ (HDw.out.below B2.out) (HPw.out.below B2.out) (HKw.out.below B2.out) R2.out (by decide) (by decide) (by
    intro k hk
    rw [List.mem_singleton] at hk
    subst hk
    exact ⟨by decide, by decide, by decide, by decide, by decide, by decide⟩) A2.out IC2.out).mono ?_
  rintro e w3 ⟨rfl, hb3⟩
  rw [HSG.out.1, HSG.out.2]
  have B3 := Lib.hid (bthen B2.out hb3)
  clear hb3 B1 R1 B2 R2 IC2 A2
  have hz1 : ¬ (T.size : Int) < 21 := by have := HTZ.out; omega
  have hz2 : (3 : Int) ≤ (T.size : Int) := by have := HTZ.out; omega
  have htn : ((T.extract 0 3).toList == [107, 49, 46]) = true := by rw [HTH.out, Lib.toList_data]; rfl
  have htm : (T.extract 0 3).toList = [107, 49, 46] := by rw [HTH.out, Lib.toList_data]
  go_upto_region 4 with fail
  have B4 : Hid (Below w.heap.size w (w3.alloc (exO0 exA26))) := Lib.hid (B3.out.alloc B3.out.size _)
  have H0 : Hid (ExBox (w3.alloc (exO0 exA26)) w3.heap.size exA26) := Lib.hid (ExBox.new _ _)
  have hgx : w3.heap.size < (w3.alloc (exO0 exA26)).heap.size := by simp
  have hgw : w.heap.size ≤ w3.heap.size := B3.out.size
  go_upto_region 5 with fail
  obtain ⟨gx, HGX⟩ : ∃ g, Hid (w3.heap.size = g) := ⟨_, Lib.hid rfl⟩
  obtain ⟨W, HW⟩ : ∃ W, Hid ((w3.alloc (exO0 exA26)) = W) := ⟨_, Lib.hid rfl⟩
  change Code.wp _ _ _ _ (w3.alloc (exO0 exA26))
  rw [HW.out] at B4 H0 hgx
  rw [HGX.out] at H0 hgx hgw
  rw [HW.out, HGX.out]
  have HDD := Lib.hid (HDw.out.below B4.out)
  have HPP := Lib.hid (HPw.out.below B4.out)
  have HKK := Lib.hid (HKw.out.below B4.out)
  have HEE := Lib.hid (HEw.out.below B4.out)
  clear HW HGX
  have HCC : Hid (sm26 = cl0 ∨ checkE sm26 = 0) := Lib.hid (.inr sm26_check)
  go_cut [2, 4] (fun v2 v4 wx => v2 = .int .i64 0 ∧ ∃ g q, v4 = .pointer (some ⟨g, 0, none⟩) ∧ Hid (Below W.heap.size W wx) ∧ Hid (ExBox wx gx exA26) ∧ Hid (ClBox wx g sm26 q) ∧ Hid (ClAt wx sm26 q) ∧ Hid (ClIn sm26 q) ∧ W.heap.size ≤ g)
  case first =>
    refine wp_region_held_drew (S := fun w' => ExBox w' gx exA26) (by kernel_rfl) ?_ (fun hHeld => ?_)
    · exact H0.out
    have B_0 : Hid (Below W.heap.size W W.drew) := Lib.hid (Below.refl _ _).drew
    have H_0 : Hid (ExBox W.drew gx exA26) := Lib.hid H0.out
    refine wpAnyH_take (i := 1) (oi := _) (v := ?_) rfl (by kernel_rfl) (by kernel_rfl) (by kernel_rfl) (fun _ _ _ h => h) (Or.inl ⟨by rfl, ?_⟩) (by assumption) ?_
    rotate_left
    · (intro w hSw; (try dsimp only at hSw); go_simp; try with_reducible rfl)
    try simp only [List.getElem_toArray, List.getElem_cons_succ, List.getElem_cons_zero, Act.put, List.setIfInBounds_toArray, List.set_cons_zero, List.set_cons_succ]
    refine wpAnyH_take (i := 2) (oi := _) (v := exV exA26) rfl (by kernel_rfl) (by kernel_rfl) (by kernel_rfl) (fun _ _ _ h => h) (yields_load_ex (by rfl) _ rfl gx rfl exA26 (fun _ h => h)) (by assumption) ?_
    try simp only [List.getElem_toArray, List.getElem_cons_succ, List.getElem_cons_zero, Act.put, List.setIfInBounds_toArray, List.set_cons_zero, List.set_cons_succ]
    refine wpAnyH_ready (rs := [0, 7]) (by kernel_rfl) (by simp) ?_
    refine AllReadyH.cons (o := _) rfl (fun K hK => ?_) (AllReadyH.cons (o := _) rfl (fun K hK => ?_) AllReadyH.nil)
    · skip
      go_simp
      go_at_call 34; refine (ring_any _).mono ?_; rintro e wr1 ⟨⟨gr1, rfl, hr1, _⟩, hb1⟩
      replace hb1 : Below (W.drew).heap.size (W.drew) wr1 := hb1
      have B_1 := Lib.hid (bthen B_0.out hb1)
      have H_1 := Lib.hid (H_0.out.below hb1)
      have R_1 := Lib.hid hr1
      clear hr1
      (try clear hHeld)
      refine hK.out _ _ ?_ (fun hHeld => ?_)
      · exact H_1.out
      clear hK K
      refine wpAnyH_ready (rs := [3, 7]) (by kernel_rfl) (by simp) ?_
      refine AllReadyH.cons (o := _) rfl (fun K hK => ?_) (AllReadyH.cons (o := _) rfl (fun K hK => ?_) AllReadyH.nil)
      · skip
        go_simp
        go_at_call 17; refine (verify26_any [ringK] (some ⟨gr1, 0, none⟩) 1 T exA26 _ ?_ ?_ ?_ ?_ ?_ ?_ ?_ ?_).mono ?_
        · exact HDD.out.below B_1.out
        · exact HPP.out.below B_1.out
        · exact HKK.out.below B_1.out
        · exact HEE.out.below B_1.out
        · exact R_1.out
        · decide
        · have := HTZ.out; have := HOZ.out; omega
        · exact ring_sec
        rintro e wv2 ⟨⟨q2, rfl, ha2, hi2⟩, hb2⟩
        replace hb2 : Below (wr1).heap.size (wr1) wv2 := hb2
        rw [HVA.out.1, HVA.out.2]
        rw [HVA.out.2] at ha2 hi2
        have B_2 := Lib.hid (bthen B_1.out hb2)
        have H_2 := Lib.hid (H_1.out.below hb2)
        have R_2 := Lib.hid (R_1.out.below hb2)
        have D_2 := Lib.hid ha2
        have I_2 := Lib.hid hi2
        clear ha2 hi2
        (try clear hHeld)
        refine hK.out _ _ ?_ (fun hHeld => ?_)
        · exact H_2.out
        clear hK K
        refine wpAnyH_take (i := 4) (oi := _) (v := ?_) rfl (by kernel_rfl) (by kernel_rfl) (by kernel_rfl) (fun _ _ _ h => h) (Or.inl ⟨by rfl, ?_⟩) (by assumption) ?_
        rotate_left
        · (intro w hSw; (try dsimp only at hSw); go_simp; try with_reducible rfl)
        try simp only [List.getElem_toArray, List.getElem_cons_succ, List.getElem_cons_zero, Act.put, List.setIfInBounds_toArray, List.set_cons_zero, List.set_cons_succ]
        refine wpAnyH_take (i := 5) (oi := _) (v := ?_) rfl (by kernel_rfl) (by kernel_rfl) (by kernel_rfl) (fun _ _ _ h => h) (Or.inl ⟨by rfl, ?_⟩) (by assumption) ?_
        rotate_left
        · (intro w hSw; (try dsimp only at hSw); go_simp; try with_reducible rfl)
        try simp only [List.getElem_toArray, List.getElem_cons_succ, List.getElem_cons_zero, Act.put, List.setIfInBounds_toArray, List.set_cons_zero, List.set_cons_succ]
        refine wpAnyH_take (i := 6) (oi := _) (v := ?_) rfl (by kernel_rfl) (by kernel_rfl) (by kernel_rfl) (fun _ _ _ h => h) (Or.inl ⟨by rfl, ?_⟩) (by assumption) ?_
        rotate_left
        · (intro w hSw; (try dsimp only at hSw); go_simp; try with_reducible rfl)
        try simp only [List.getElem_toArray, List.getElem_cons_succ, List.getElem_cons_zero, Act.put, List.setIfInBounds_toArray, List.set_cons_zero, List.set_cons_succ]
        refine wpAnyH_ready (rs := [7]) (by kernel_rfl) (by simp) ?_
        refine AllReadyH.cons (o := _) rfl (fun K hK => ?_) AllReadyH.nil
        refine step_alloc_cl rfl rfl ?_
        try simp only [List.getElem_toArray, List.getElem_cons_succ, List.getElem_cons_zero, Act.put, List.setIfInBounds_toArray, List.set_cons_zero, List.set_cons_succ]
        have hb3 : Below (wv2).heap.size (wv2) ((wv2).alloc (clO cl0 p30)) := (Below.refl _ _).alloc (Nat.le_refl _) _
        have Z0_3 : Hid (ClBox ((wv2).alloc (clO cl0 p30)) (wv2).heap.size cl0 p30) := Lib.hid (ClBox.new _ _ _)
        have hga3 : W.heap.size ≤ (wv2).heap.size := B_2.out.size
        have B_3 := Lib.hid (bthen B_2.out hb3)
        have H_3 := Lib.hid (H_2.out.below hb3)
        have R_3 := Lib.hid (R_2.out.below hb3)
        have D_3 := Lib.hid (D_2.out.below hb3)
        (try clear hHeld)
        refine hK.out _ _ ?_ (fun hHeld => ?_)
        · exact H_3.out
        clear hK K
        refine wpAnyH_ready (rs := [8]) (by kernel_rfl) (by simp) ?_
        refine AllReadyH.cons (o := _) rfl (fun K hK => ?_) AllReadyH.nil
        refine step_store_cl rfl _ _ rfl ((wv2).heap.size) rfl sm26 q2 rfl cl0 p30 Z0_3.out ?_
        try simp only [List.getElem_toArray, List.getElem_cons_succ, List.getElem_cons_zero, Act.put, List.setIfInBounds_toArray, List.set_cons_zero, List.set_cons_succ]
        have X_4 : Hid (ClBox ((((wv2).alloc (clO cl0 p30))).setRow ((wv2).heap.size) (clA sm26 q2)) ((wv2).heap.size) sm26 q2) := Lib.hid (ClBox.set Z0_3.out)
        have B_4 : Hid (Below W.heap.size W ((((wv2).alloc (clO cl0 p30))).setRow ((wv2).heap.size) (clA sm26 q2))) := Lib.hid (below_setRow B_3.out hga3 _)
        have H_4 : Hid (ExBox ((((wv2).alloc (clO cl0 p30))).setRow ((wv2).heap.size) (clA sm26 q2)) gx exA26) := Lib.hid (ExBox.other H_3.out (by have := hga3; omega))
        have D_4 : Hid (ClAt ((((wv2).alloc (clO cl0 p30))).setRow ((wv2).heap.size) (clA sm26 q2)) sm26 q2) := Lib.hid (ClAt.setBlank' D_3.out HCC.out Z0_3.out blank_cl _)
        (try clear hHeld)
        refine hK.out _ _ ?_ (fun hHeld => ?_)
        · exact H_4.out
        clear hK K
        refine wpAnyH_take (i := 9) (oi := _) (v := ?_) rfl (by kernel_rfl) (by kernel_rfl) (by kernel_rfl) (fun _ _ _ h => h) (Or.inl ⟨by rfl, ?_⟩) (by assumption) ?_
        rotate_left
        · (intro w hSw; (try dsimp only at hSw); go_simp; try with_reducible rfl)
        try simp only [List.getElem_toArray, List.getElem_cons_succ, List.getElem_cons_zero, Act.put, List.setIfInBounds_toArray, List.set_cons_zero, List.set_cons_succ]
        refine wpAnyH_done (by kernel_rfl) ?_ _
        go_wp2_with fail
        go_meet
        exact ⟨rfl, _, _, rfl, B_4, H_4, X_4, D_4, I_2, hga3⟩
      · skip
        refine step_alloc_cl rfl rfl ?_
        try simp only [List.getElem_toArray, List.getElem_cons_succ, List.getElem_cons_zero, Act.put, List.setIfInBounds_toArray, List.set_cons_zero, List.set_cons_succ]
        have hb5 : Below (wr1).heap.size (wr1) ((wr1).alloc (clO cl0 p30)) := (Below.refl _ _).alloc (Nat.le_refl _) _
        have Z0_5 : Hid (ClBox ((wr1).alloc (clO cl0 p30)) (wr1).heap.size cl0 p30) := Lib.hid (ClBox.new _ _ _)
        have hga5 : W.heap.size ≤ (wr1).heap.size := B_1.out.size
        have B_5 := Lib.hid (bthen B_1.out hb5)
        have H_5 := Lib.hid (H_1.out.below hb5)
        have R_5 := Lib.hid (R_1.out.below hb5)
        (try clear hHeld)
        refine hK.out _ _ ?_ (fun hHeld => ?_)
        · exact H_5.out
        clear hK K
        refine wpAnyH_ready (rs := [3]) (by kernel_rfl) (by simp) ?_
        refine AllReadyH.cons (o := _) rfl (fun K hK => ?_) AllReadyH.nil
        go_simp
        go_at_call 17; refine (verify26_any [ringK] (some ⟨gr1, 0, none⟩) 1 T exA26 _ ?_ ?_ ?_ ?_ ?_ ?_ ?_ ?_).mono ?_
        · exact HDD.out.below B_5.out
        · exact HPP.out.below B_5.out
        · exact HKK.out.below B_5.out
        · exact HEE.out.below B_5.out
        · exact R_5.out
        · decide
        · have := HTZ.out; have := HOZ.out; omega
        · exact ring_sec
        rintro e wv6 ⟨⟨q6, rfl, ha6, hi6⟩, hb6⟩
        replace hb6 : Below (((wr1).alloc (clO cl0 p30))).heap.size (((wr1).alloc (clO cl0 p30))) wv6 := hb6
        rw [HVA.out.1, HVA.out.2]
        rw [HVA.out.2] at ha6 hi6
        have B_6 := Lib.hid (bthen B_5.out hb6)
        have H_6 := Lib.hid (H_5.out.below hb6)
        have R_6 := Lib.hid (R_5.out.below hb6)
        have Z_6 := Lib.hid (ClBox.below Z0_5.out hb6)
        have D_6 := Lib.hid ha6
        have I_6 := Lib.hid hi6
        clear ha6 hi6
        (try clear hHeld)
        refine hK.out _ _ ?_ (fun hHeld => ?_)
        · exact H_6.out
        clear hK K
        refine wpAnyH_take (i := 4) (oi := _) (v := ?_) rfl (by kernel_rfl) (by kernel_rfl) (by kernel_rfl) (fun _ _ _ h => h) (Or.inl ⟨by rfl, ?_⟩) (by assumption) ?_
        rotate_left
        · (intro w hSw; (try dsimp only at hSw); go_simp; try with_reducible rfl)
        try simp only [List.getElem_toArray, List.getElem_cons_succ, List.getElem_cons_zero, Act.put, List.setIfInBounds_toArray, List.set_cons_zero, List.set_cons_succ]
        refine wpAnyH_take (i := 5) (oi := _) (v := ?_) rfl (by kernel_rfl) (by kernel_rfl) (by kernel_rfl) (fun _ _ _ h => h) (Or.inl ⟨by rfl, ?_⟩) (by assumption) ?_
        rotate_left
        · (intro w hSw; (try dsimp only at hSw); go_simp; try with_reducible rfl)
        try simp only [List.getElem_toArray, List.getElem_cons_succ, List.getElem_cons_zero, Act.put, List.setIfInBounds_toArray, List.set_cons_zero, List.set_cons_succ]
        refine wpAnyH_take (i := 6) (oi := _) (v := ?_) rfl (by kernel_rfl) (by kernel_rfl) (by kernel_rfl) (fun _ _ _ h => h) (Or.inl ⟨by rfl, ?_⟩) (by assumption) ?_
        rotate_left
        · (intro w hSw; (try dsimp only at hSw); go_simp; try with_reducible rfl)
        try simp only [List.getElem_toArray, List.getElem_cons_succ, List.getElem_cons_zero, Act.put, List.setIfInBounds_toArray, List.set_cons_zero, List.set_cons_succ]
        refine wpAnyH_ready (rs := [8]) (by kernel_rfl) (by simp) ?_
        refine AllReadyH.cons (o := _) rfl (fun K hK => ?_) AllReadyH.nil
        refine step_store_cl rfl _ _ rfl ((wr1).heap.size) rfl sm26 q6 rfl cl0 p30 Z_6.out ?_
        try simp only [List.getElem_toArray, List.getElem_cons_succ, List.getElem_cons_zero, Act.put, List.setIfInBounds_toArray, List.set_cons_zero, List.set_cons_succ]
        have X_7 : Hid (ClBox ((wv6).setRow ((wr1).heap.size) (clA sm26 q6)) ((wr1).heap.size) sm26 q6) := Lib.hid (ClBox.set Z_6.out)
        have B_7 : Hid (Below W.heap.size W ((wv6).setRow ((wr1).heap.size) (clA sm26 q6))) := Lib.hid (below_setRow B_6.out hga5 _)
        have H_7 : Hid (ExBox ((wv6).setRow ((wr1).heap.size) (clA sm26 q6)) gx exA26) := Lib.hid (ExBox.other H_6.out (by have := hga5; omega))
        have D_7 : Hid (ClAt ((wv6).setRow ((wr1).heap.size) (clA sm26 q6)) sm26 q6) := Lib.hid (ClAt.setBlank' D_6.out HCC.out Z_6.out blank_cl _)
        (try clear hHeld)
        refine hK.out _ _ ?_ (fun hHeld => ?_)
        · exact H_7.out
        clear hK K
        refine wpAnyH_take (i := 9) (oi := _) (v := ?_) rfl (by kernel_rfl) (by kernel_rfl) (by kernel_rfl) (fun _ _ _ h => h) (Or.inl ⟨by rfl, ?_⟩) (by assumption) ?_
        rotate_left
        · (intro w hSw; (try dsimp only at hSw); go_simp; try with_reducible rfl)
        try simp only [List.getElem_toArray, List.getElem_cons_succ, List.getElem_cons_zero, Act.put, List.setIfInBounds_toArray, List.set_cons_zero, List.set_cons_succ]
        refine wpAnyH_done (by kernel_rfl) ?_ _
        go_wp2_with fail
        go_meet
        exact ⟨rfl, _, _, rfl, B_7, H_7, X_7, D_7, I_6, hga5⟩
    · skip
      refine step_alloc_cl rfl rfl ?_
      try simp only [List.getElem_toArray, List.getElem_cons_succ, List.getElem_cons_zero, Act.put, List.setIfInBounds_toArray, List.set_cons_zero, List.set_cons_succ]
      have hb8 : Below (W.drew).heap.size (W.drew) ((W.drew).alloc (clO cl0 p30)) := (Below.refl _ _).alloc (Nat.le_refl _) _
      have Z0_8 : Hid (ClBox ((W.drew).alloc (clO cl0 p30)) (W.drew).heap.size cl0 p30) := Lib.hid (ClBox.new _ _ _)
      have hga8 : W.heap.size ≤ (W.drew).heap.size := B_0.out.size
      have B_8 := Lib.hid (bthen B_0.out hb8)
      have H_8 := Lib.hid (H_0.out.below hb8)
      (try clear hHeld)
      refine hK.out _ _ ?_ (fun hHeld => ?_)
      · exact H_8.out
      clear hK K
      refine wpAnyH_ready (rs := [0]) (by kernel_rfl) (by simp) ?_
      refine AllReadyH.cons (o := _) rfl (fun K hK => ?_) AllReadyH.nil
      go_simp
      go_at_call 34; refine (ring_any _).mono ?_; rintro e wr9 ⟨⟨gr9, rfl, hr9, _⟩, hb9⟩
      replace hb9 : Below (((W.drew).alloc (clO cl0 p30))).heap.size (((W.drew).alloc (clO cl0 p30))) wr9 := hb9
      have B_9 := Lib.hid (bthen B_8.out hb9)
      have H_9 := Lib.hid (H_8.out.below hb9)
      have Z_9 := Lib.hid (ClBox.below Z0_8.out hb9)
      have R_9 := Lib.hid hr9
      clear hr9
      (try clear hHeld)
      refine hK.out _ _ ?_ (fun hHeld => ?_)
      · exact H_9.out
      clear hK K
      refine wpAnyH_ready (rs := [3]) (by kernel_rfl) (by simp) ?_
      refine AllReadyH.cons (o := _) rfl (fun K hK => ?_) AllReadyH.nil
      go_simp
      go_at_call 17; refine (verify26_any [ringK] (some ⟨gr9, 0, none⟩) 1 T exA26 _ ?_ ?_ ?_ ?_ ?_ ?_ ?_ ?_).mono ?_
      · exact HDD.out.below B_9.out
      · exact HPP.out.below B_9.out
      · exact HKK.out.below B_9.out
      · exact HEE.out.below B_9.out
      · exact R_9.out
      · decide
      · have := HTZ.out; have := HOZ.out; omega
      · exact ring_sec
      rintro e wv10 ⟨⟨q10, rfl, ha10, hi10⟩, hb10⟩
      replace hb10 : Below (wr9).heap.size (wr9) wv10 := hb10
      rw [HVA.out.1, HVA.out.2]
      rw [HVA.out.2] at ha10 hi10
      have B_10 := Lib.hid (bthen B_9.out hb10)
      have H_10 := Lib.hid (H_9.out.below hb10)
      have Z_10 := Lib.hid (ClBox.below Z_9.out hb10)
      have R_10 := Lib.hid (R_9.out.below hb10)
      have D_10 := Lib.hid ha10
      have I_10 := Lib.hid hi10
      clear ha10 hi10
      (try clear hHeld)
      refine hK.out _ _ ?_ (fun hHeld => ?_)
      · exact H_10.out
      clear hK K
      refine wpAnyH_take (i := 4) (oi := _) (v := ?_) rfl (by kernel_rfl) (by kernel_rfl) (by kernel_rfl) (fun _ _ _ h => h) (Or.inl ⟨by rfl, ?_⟩) (by assumption) ?_
      rotate_left
      · (intro w hSw; (try dsimp only at hSw); go_simp; try with_reducible rfl)
      try simp only [List.getElem_toArray, List.getElem_cons_succ, List.getElem_cons_zero, Act.put, List.setIfInBounds_toArray, List.set_cons_zero, List.set_cons_succ]
      refine wpAnyH_take (i := 5) (oi := _) (v := ?_) rfl (by kernel_rfl) (by kernel_rfl) (by kernel_rfl) (fun _ _ _ h => h) (Or.inl ⟨by rfl, ?_⟩) (by assumption) ?_
      rotate_left
      · (intro w hSw; (try dsimp only at hSw); go_simp; try with_reducible rfl)
      try simp only [List.getElem_toArray, List.getElem_cons_succ, List.getElem_cons_zero, Act.put, List.setIfInBounds_toArray, List.set_cons_zero, List.set_cons_succ]
      refine wpAnyH_take (i := 6) (oi := _) (v := ?_) rfl (by kernel_rfl) (by kernel_rfl) (by kernel_rfl) (fun _ _ _ h => h) (Or.inl ⟨by rfl, ?_⟩) (by assumption) ?_
      rotate_left
      · (intro w hSw; (try dsimp only at hSw); go_simp; try with_reducible rfl)
      try simp only [List.getElem_toArray, List.getElem_cons_succ, List.getElem_cons_zero, Act.put, List.setIfInBounds_toArray, List.set_cons_zero, List.set_cons_succ]
      refine wpAnyH_ready (rs := [8]) (by kernel_rfl) (by simp) ?_
      refine AllReadyH.cons (o := _) rfl (fun K hK => ?_) AllReadyH.nil
      refine step_store_cl rfl _ _ rfl ((W.drew).heap.size) rfl sm26 q10 rfl cl0 p30 Z_10.out ?_
      try simp only [List.getElem_toArray, List.getElem_cons_succ, List.getElem_cons_zero, Act.put, List.setIfInBounds_toArray, List.set_cons_zero, List.set_cons_succ]
      have X_11 : Hid (ClBox ((wv10).setRow ((W.drew).heap.size) (clA sm26 q10)) ((W.drew).heap.size) sm26 q10) := Lib.hid (ClBox.set Z_10.out)
      have B_11 : Hid (Below W.heap.size W ((wv10).setRow ((W.drew).heap.size) (clA sm26 q10))) := Lib.hid (below_setRow B_10.out hga8 _)
      have H_11 : Hid (ExBox ((wv10).setRow ((W.drew).heap.size) (clA sm26 q10)) gx exA26) := Lib.hid (ExBox.other H_10.out (by have := hga8; omega))
      have D_11 : Hid (ClAt ((wv10).setRow ((W.drew).heap.size) (clA sm26 q10)) sm26 q10) := Lib.hid (ClAt.setBlank' D_10.out HCC.out Z_10.out blank_cl _)
      (try clear hHeld)
      refine hK.out _ _ ?_ (fun hHeld => ?_)
      · exact H_11.out
      clear hK K
      refine wpAnyH_take (i := 9) (oi := _) (v := ?_) rfl (by kernel_rfl) (by kernel_rfl) (by kernel_rfl) (fun _ _ _ h => h) (Or.inl ⟨by rfl, ?_⟩) (by assumption) ?_
      rotate_left
      · (intro w hSw; (try dsimp only at hSw); go_simp; try with_reducible rfl)
      try simp only [List.getElem_toArray, List.getElem_cons_succ, List.getElem_cons_zero, Act.put, List.setIfInBounds_toArray, List.set_cons_zero, List.set_cons_succ]
      refine wpAnyH_done (by kernel_rfl) ?_ _
      go_wp2_with fail
      go_meet
      exact ⟨rfl, _, _, rfl, B_11, H_11, X_11, D_11, I_10, hga8⟩
  case rest =>
    obtain ⟨rfl, gc, qc, rfl, BX, HX, XC, AC, IC, hgc⟩ := hcut
    generalize wc = W5 at *
    have B5 := Lib.hid (bthen B4.out BX.out)
    have HD5 := Lib.hid (HDD.out.below BX.out)
    have HP5 := Lib.hid (HPP.out.below BX.out)
    have HK5 := Lib.hid (HKK.out.below BX.out)
    have HE5 := Lib.hid (HEE.out.below BX.out)
    have hgx5 : gx < W5.heap.size := (Array.getElem?_eq_some_iff.1 HX.out).1
    have hgcx : gc ≠ gx := by omega
    have HC0 : Hid (cl0 = cl0 ∨ checkE cl0 = 0) := Lib.hid (.inl rfl)
    have HVOC : Hid (verC [ringK] O exA26 = cl0) := Lib.hid (ver_err (by rw [HVO.out]; decide)).2
    have HVBC : Hid (verC [ringK] T exB26 = cl0) := Lib.hid (ver_err (by rw [HVB.out]; decide)).2
    clear H0 HDD HPP HKK HEE B4 hgx
    go_upto_region 6 with fail
    go_cut [5, 6] (fun v5 v6 wx => v6 = .int .i64 17 ∧ (∃ g, v5 = .pointer (some ⟨g, 0, none⟩)) ∧ Hid (Below W5.heap.size W5 wx) ∧ Hid (ExBox wx gx exA26))
    case first =>
      refine wp_region_held_drew (S := fun w' => ExBox w' gx exA26) (by kernel_rfl) ?_ (fun hHeld => ?_)
      · exact HX.out
      have B_0 : Hid (Below W5.heap.size W5 W5.drew) := Lib.hid (Below.refl _ _).drew
      have H_0 : Hid (ExBox W5.drew gx exA26) := Lib.hid HX.out
      refine wpAnyH_take (i := 1) (oi := _) (v := ?_) rfl (by kernel_rfl) (by kernel_rfl) (by kernel_rfl) (fun _ _ _ h => h) (Or.inl ⟨by rfl, ?_⟩) (by assumption) ?_
      rotate_left
      · (intro w hSw; (try dsimp only at hSw); go_simp; try with_reducible rfl)
      try simp only [List.getElem_toArray, List.getElem_cons_succ, List.getElem_cons_zero, Act.put, List.setIfInBounds_toArray, List.set_cons_zero, List.set_cons_succ]
      refine wpAnyH_take (i := 3) (oi := _) (v := exV exA26) rfl (by kernel_rfl) (by kernel_rfl) (by kernel_rfl) (fun _ _ _ h => h) (yields_load_ex (by rfl) _ rfl gx rfl exA26 (fun _ h => h)) (by assumption) ?_
      try simp only [List.getElem_toArray, List.getElem_cons_succ, List.getElem_cons_zero, Act.put, List.setIfInBounds_toArray, List.set_cons_zero, List.set_cons_succ]
      refine wpAnyH_ready (rs := [0, 8]) (by kernel_rfl) (by simp) ?_
      refine AllReadyH.cons (o := _) rfl (fun K hK => ?_) (AllReadyH.cons (o := _) rfl (fun K hK => ?_) AllReadyH.nil)
      · skip
        go_simp
        go_at_call 34; refine (ring_any _).mono ?_; rintro e wr1 ⟨⟨gr1, rfl, hr1, _⟩, hb1⟩
        replace hb1 : Below (W5.drew).heap.size (W5.drew) wr1 := hb1
        have B_1 := Lib.hid (bthen B_0.out hb1)
        have H_1 := Lib.hid (H_0.out.below hb1)
        have R_1 := Lib.hid hr1
        clear hr1
        (try clear hHeld)
        refine hK.out _ _ ?_ (fun hHeld => ?_)
        · exact H_1.out
        clear hK K
        refine wpAnyH_ready (rs := [2, 8]) (by kernel_rfl) (by simp) ?_
        refine AllReadyH.cons (o := _) rfl (fun K hK => ?_) (AllReadyH.cons (o := _) rfl (fun K hK => ?_) AllReadyH.nil)
        · skip
          go_simp
          go_at_call 36; refine (other_any T _ (by have := HTZ.out; omega) (by have := HTZ.out; omega)).mono ?_; rintro e wo2 ⟨rfl, rfl⟩; rw [HO.out]
          (try clear hHeld)
          refine hK.out _ _ ?_ (fun hHeld => ?_)
          · exact H_1.out
          clear hK K
          refine wpAnyH_ready (rs := [4, 8]) (by kernel_rfl) (by simp) ?_
          refine AllReadyH.cons (o := _) rfl (fun K hK => ?_) (AllReadyH.cons (o := _) rfl (fun K hK => ?_) AllReadyH.nil)
          · skip
            go_simp
            go_at_call 17; refine (verify26_any [ringK] (some ⟨gr1, 0, none⟩) 1 O exA26 _ ?_ ?_ ?_ ?_ ?_ ?_ ?_ ?_).mono ?_
            · exact HD5.out.below B_1.out
            · exact HP5.out.below B_1.out
            · exact HK5.out.below B_1.out
            · exact HE5.out.below B_1.out
            · exact R_1.out
            · decide
            · have := HTZ.out; have := HOZ.out; omega
            · exact ring_sec
            rintro e wv3 ⟨⟨q3, rfl, ha3, hi3⟩, hb3⟩
            replace hb3 : Below (wr1).heap.size (wr1) wv3 := hb3
            rw [HVO.out, HVOC.out]
            rw [HVOC.out] at ha3 hi3
            have B_3 := Lib.hid (bthen B_1.out hb3)
            have H_3 := Lib.hid (H_1.out.below hb3)
            have R_3 := Lib.hid (R_1.out.below hb3)
            have D_3 := Lib.hid ha3
            have I_3 := Lib.hid hi3
            clear ha3 hi3
            (try clear hHeld)
            refine hK.out _ _ ?_ (fun hHeld => ?_)
            · exact H_3.out
            clear hK K
            refine wpAnyH_take (i := 5) (oi := _) (v := ?_) rfl (by kernel_rfl) (by kernel_rfl) (by kernel_rfl) (fun _ _ _ h => h) (Or.inl ⟨by rfl, ?_⟩) (by assumption) ?_
            rotate_left
            · (intro w hSw; (try dsimp only at hSw); go_simp; try with_reducible rfl)
            try simp only [List.getElem_toArray, List.getElem_cons_succ, List.getElem_cons_zero, Act.put, List.setIfInBounds_toArray, List.set_cons_zero, List.set_cons_succ]
            refine wpAnyH_take (i := 6) (oi := _) (v := ?_) rfl (by kernel_rfl) (by kernel_rfl) (by kernel_rfl) (fun _ _ _ h => h) (Or.inl ⟨by rfl, ?_⟩) (by assumption) ?_
            rotate_left
            · (intro w hSw; (try dsimp only at hSw); go_simp; try with_reducible rfl)
            try simp only [List.getElem_toArray, List.getElem_cons_succ, List.getElem_cons_zero, Act.put, List.setIfInBounds_toArray, List.set_cons_zero, List.set_cons_succ]
            refine wpAnyH_take (i := 7) (oi := _) (v := ?_) rfl (by kernel_rfl) (by kernel_rfl) (by kernel_rfl) (fun _ _ _ h => h) (Or.inl ⟨by rfl, ?_⟩) (by assumption) ?_
            rotate_left
            · (intro w hSw; (try dsimp only at hSw); go_simp; try with_reducible rfl)
            try simp only [List.getElem_toArray, List.getElem_cons_succ, List.getElem_cons_zero, Act.put, List.setIfInBounds_toArray, List.set_cons_zero, List.set_cons_succ]
            refine wpAnyH_ready (rs := [8]) (by kernel_rfl) (by simp) ?_
            refine AllReadyH.cons (o := _) rfl (fun K hK => ?_) AllReadyH.nil
            refine step_alloc_cl rfl rfl ?_
            try simp only [List.getElem_toArray, List.getElem_cons_succ, List.getElem_cons_zero, Act.put, List.setIfInBounds_toArray, List.set_cons_zero, List.set_cons_succ]
            have hb4 : Below (wv3).heap.size (wv3) ((wv3).alloc (clO cl0 p30)) := (Below.refl _ _).alloc (Nat.le_refl _) _
            have Z0_4 : Hid (ClBox ((wv3).alloc (clO cl0 p30)) (wv3).heap.size cl0 p30) := Lib.hid (ClBox.new _ _ _)
            have hga4 : W5.heap.size ≤ (wv3).heap.size := B_3.out.size
            have B_4 := Lib.hid (bthen B_3.out hb4)
            have H_4 := Lib.hid (H_3.out.below hb4)
            have R_4 := Lib.hid (R_3.out.below hb4)
            have D_4 := Lib.hid (D_3.out.below hb4)
            (try clear hHeld)
            refine hK.out _ _ ?_ (fun hHeld => ?_)
            · exact H_4.out
            clear hK K
            refine wpAnyH_ready (rs := [9]) (by kernel_rfl) (by simp) ?_
            refine AllReadyH.cons (o := _) rfl (fun K hK => ?_) AllReadyH.nil
            refine step_store_cl rfl _ _ rfl ((wv3).heap.size) rfl cl0 q3 rfl cl0 p30 Z0_4.out ?_
            try simp only [List.getElem_toArray, List.getElem_cons_succ, List.getElem_cons_zero, Act.put, List.setIfInBounds_toArray, List.set_cons_zero, List.set_cons_succ]
            have X_5 : Hid (ClBox ((((wv3).alloc (clO cl0 p30))).setRow ((wv3).heap.size) (clA cl0 q3)) ((wv3).heap.size) cl0 q3) := Lib.hid (ClBox.set Z0_4.out)
            have B_5 : Hid (Below W5.heap.size W5 ((((wv3).alloc (clO cl0 p30))).setRow ((wv3).heap.size) (clA cl0 q3))) := Lib.hid (below_setRow B_4.out hga4 _)
            have H_5 : Hid (ExBox ((((wv3).alloc (clO cl0 p30))).setRow ((wv3).heap.size) (clA cl0 q3)) gx exA26) := Lib.hid (ExBox.other H_4.out (by have := hga4; omega))
            have D_5 : Hid (ClAt ((((wv3).alloc (clO cl0 p30))).setRow ((wv3).heap.size) (clA cl0 q3)) cl0 q3) := Lib.hid (ClAt.setBlank' D_4.out HC0.out Z0_4.out blank_cl _)
            (try clear hHeld)
            refine hK.out _ _ ?_ (fun hHeld => ?_)
            · exact H_5.out
            clear hK K
            refine wpAnyH_take (i := 10) (oi := _) (v := ?_) rfl (by kernel_rfl) (by kernel_rfl) (by kernel_rfl) (fun _ _ _ h => h) (Or.inl ⟨by rfl, ?_⟩) (by assumption) ?_
            rotate_left
            · (intro w hSw; (try dsimp only at hSw); go_simp; try with_reducible rfl)
            try simp only [List.getElem_toArray, List.getElem_cons_succ, List.getElem_cons_zero, Act.put, List.setIfInBounds_toArray, List.set_cons_zero, List.set_cons_succ]
            refine wpAnyH_done (by kernel_rfl) ?_ _
            go_wp2_with fail
            go_meet
            exact ⟨rfl, ⟨_, rfl⟩, B_5, H_5⟩
          · skip
            refine step_alloc_cl rfl rfl ?_
            try simp only [List.getElem_toArray, List.getElem_cons_succ, List.getElem_cons_zero, Act.put, List.setIfInBounds_toArray, List.set_cons_zero, List.set_cons_succ]
            have hb6 : Below (wr1).heap.size (wr1) ((wr1).alloc (clO cl0 p30)) := (Below.refl _ _).alloc (Nat.le_refl _) _
            have Z0_6 : Hid (ClBox ((wr1).alloc (clO cl0 p30)) (wr1).heap.size cl0 p30) := Lib.hid (ClBox.new _ _ _)
            have hga6 : W5.heap.size ≤ (wr1).heap.size := B_1.out.size
            have B_6 := Lib.hid (bthen B_1.out hb6)
            have H_6 := Lib.hid (H_1.out.below hb6)
            have R_6 := Lib.hid (R_1.out.below hb6)
            (try clear hHeld)
            refine hK.out _ _ ?_ (fun hHeld => ?_)
            · exact H_6.out
            clear hK K
            refine wpAnyH_ready (rs := [4]) (by kernel_rfl) (by simp) ?_
            refine AllReadyH.cons (o := _) rfl (fun K hK => ?_) AllReadyH.nil
            go_simp
            go_at_call 17; refine (verify26_any [ringK] (some ⟨gr1, 0, none⟩) 1 O exA26 _ ?_ ?_ ?_ ?_ ?_ ?_ ?_ ?_).mono ?_
            · exact HD5.out.below B_6.out
            · exact HP5.out.below B_6.out
            · exact HK5.out.below B_6.out
            · exact HE5.out.below B_6.out
            · exact R_6.out
            · decide
            · have := HTZ.out; have := HOZ.out; omega
            · exact ring_sec
            rintro e wv7 ⟨⟨q7, rfl, ha7, hi7⟩, hb7⟩
            replace hb7 : Below (((wr1).alloc (clO cl0 p30))).heap.size (((wr1).alloc (clO cl0 p30))) wv7 := hb7
            rw [HVO.out, HVOC.out]
            rw [HVOC.out] at ha7 hi7
            have B_7 := Lib.hid (bthen B_6.out hb7)
            have H_7 := Lib.hid (H_6.out.below hb7)
            have R_7 := Lib.hid (R_6.out.below hb7)
            have Z_7 := Lib.hid (ClBox.below Z0_6.out hb7)
            have D_7 := Lib.hid ha7
            have I_7 := Lib.hid hi7
            clear ha7 hi7
            (try clear hHeld)
            refine hK.out _ _ ?_ (fun hHeld => ?_)
            · exact H_7.out
            clear hK K
            refine wpAnyH_take (i := 5) (oi := _) (v := ?_) rfl (by kernel_rfl) (by kernel_rfl) (by kernel_rfl) (fun _ _ _ h => h) (Or.inl ⟨by rfl, ?_⟩) (by assumption) ?_
            rotate_left
            · (intro w hSw; (try dsimp only at hSw); go_simp; try with_reducible rfl)
            try simp only [List.getElem_toArray, List.getElem_cons_succ, List.getElem_cons_zero, Act.put, List.setIfInBounds_toArray, List.set_cons_zero, List.set_cons_succ]
            refine wpAnyH_take (i := 6) (oi := _) (v := ?_) rfl (by kernel_rfl) (by kernel_rfl) (by kernel_rfl) (fun _ _ _ h => h) (Or.inl ⟨by rfl, ?_⟩) (by assumption) ?_
            rotate_left
            · (intro w hSw; (try dsimp only at hSw); go_simp; try with_reducible rfl)
            try simp only [List.getElem_toArray, List.getElem_cons_succ, List.getElem_cons_zero, Act.put, List.setIfInBounds_toArray, List.set_cons_zero, List.set_cons_succ]
            refine wpAnyH_take (i := 7) (oi := _) (v := ?_) rfl (by kernel_rfl) (by kernel_rfl) (by kernel_rfl) (fun _ _ _ h => h) (Or.inl ⟨by rfl, ?_⟩) (by assumption) ?_
            rotate_left
            · (intro w hSw; (try dsimp only at hSw); go_simp; try with_reducible rfl)
            try simp only [List.getElem_toArray, List.getElem_cons_succ, List.getElem_cons_zero, Act.put, List.setIfInBounds_toArray, List.set_cons_zero, List.set_cons_succ]
            refine wpAnyH_ready (rs := [9]) (by kernel_rfl) (by simp) ?_
            refine AllReadyH.cons (o := _) rfl (fun K hK => ?_) AllReadyH.nil
            refine step_store_cl rfl _ _ rfl ((wr1).heap.size) rfl cl0 q7 rfl cl0 p30 Z_7.out ?_
            try simp only [List.getElem_toArray, List.getElem_cons_succ, List.getElem_cons_zero, Act.put, List.setIfInBounds_toArray, List.set_cons_zero, List.set_cons_succ]
            have X_8 : Hid (ClBox ((wv7).setRow ((wr1).heap.size) (clA cl0 q7)) ((wr1).heap.size) cl0 q7) := Lib.hid (ClBox.set Z_7.out)
            have B_8 : Hid (Below W5.heap.size W5 ((wv7).setRow ((wr1).heap.size) (clA cl0 q7))) := Lib.hid (below_setRow B_7.out hga6 _)
            have H_8 : Hid (ExBox ((wv7).setRow ((wr1).heap.size) (clA cl0 q7)) gx exA26) := Lib.hid (ExBox.other H_7.out (by have := hga6; omega))
            have D_8 : Hid (ClAt ((wv7).setRow ((wr1).heap.size) (clA cl0 q7)) cl0 q7) := Lib.hid (ClAt.setBlank' D_7.out HC0.out Z_7.out blank_cl _)
            (try clear hHeld)
            refine hK.out _ _ ?_ (fun hHeld => ?_)
            · exact H_8.out
            clear hK K
            refine wpAnyH_take (i := 10) (oi := _) (v := ?_) rfl (by kernel_rfl) (by kernel_rfl) (by kernel_rfl) (fun _ _ _ h => h) (Or.inl ⟨by rfl, ?_⟩) (by assumption) ?_
            rotate_left
            · (intro w hSw; (try dsimp only at hSw); go_simp; try with_reducible rfl)
            try simp only [List.getElem_toArray, List.getElem_cons_succ, List.getElem_cons_zero, Act.put, List.setIfInBounds_toArray, List.set_cons_zero, List.set_cons_succ]
            refine wpAnyH_done (by kernel_rfl) ?_ _
            go_wp2_with fail
            go_meet
            exact ⟨rfl, ⟨_, rfl⟩, B_8, H_8⟩
        · skip
          refine step_alloc_cl rfl rfl ?_
          try simp only [List.getElem_toArray, List.getElem_cons_succ, List.getElem_cons_zero, Act.put, List.setIfInBounds_toArray, List.set_cons_zero, List.set_cons_succ]
          have hb9 : Below (wr1).heap.size (wr1) ((wr1).alloc (clO cl0 p30)) := (Below.refl _ _).alloc (Nat.le_refl _) _
          have Z0_9 : Hid (ClBox ((wr1).alloc (clO cl0 p30)) (wr1).heap.size cl0 p30) := Lib.hid (ClBox.new _ _ _)
          have hga9 : W5.heap.size ≤ (wr1).heap.size := B_1.out.size
          have B_9 := Lib.hid (bthen B_1.out hb9)
          have H_9 := Lib.hid (H_1.out.below hb9)
          have R_9 := Lib.hid (R_1.out.below hb9)
          (try clear hHeld)
          refine hK.out _ _ ?_ (fun hHeld => ?_)
          · exact H_9.out
          clear hK K
          refine wpAnyH_ready (rs := [2]) (by kernel_rfl) (by simp) ?_
          refine AllReadyH.cons (o := _) rfl (fun K hK => ?_) AllReadyH.nil
          go_simp
          go_at_call 36; refine (other_any T _ (by have := HTZ.out; omega) (by have := HTZ.out; omega)).mono ?_; rintro e wo10 ⟨rfl, rfl⟩; rw [HO.out]
          (try clear hHeld)
          refine hK.out _ _ ?_ (fun hHeld => ?_)
          · exact H_9.out
          clear hK K
          refine wpAnyH_ready (rs := [4]) (by kernel_rfl) (by simp) ?_
          refine AllReadyH.cons (o := _) rfl (fun K hK => ?_) AllReadyH.nil
          go_simp
          go_at_call 17; refine (verify26_any [ringK] (some ⟨gr1, 0, none⟩) 1 O exA26 _ ?_ ?_ ?_ ?_ ?_ ?_ ?_ ?_).mono ?_
          · exact HD5.out.below B_9.out
          · exact HP5.out.below B_9.out
          · exact HK5.out.below B_9.out
          · exact HE5.out.below B_9.out
          · exact R_9.out
          · decide
          · have := HTZ.out; have := HOZ.out; omega
          · exact ring_sec
          rintro e wv11 ⟨⟨q11, rfl, ha11, hi11⟩, hb11⟩
          replace hb11 : Below (((wr1).alloc (clO cl0 p30))).heap.size (((wr1).alloc (clO cl0 p30))) wv11 := hb11
          rw [HVO.out, HVOC.out]
          rw [HVOC.out] at ha11 hi11
          have B_11 := Lib.hid (bthen B_9.out hb11)
          have H_11 := Lib.hid (H_9.out.below hb11)
          have R_11 := Lib.hid (R_9.out.below hb11)
          have Z_11 := Lib.hid (ClBox.below Z0_9.out hb11)
          have D_11 := Lib.hid ha11
          have I_11 := Lib.hid hi11
          clear ha11 hi11
          (try clear hHeld)
          refine hK.out _ _ ?_ (fun hHeld => ?_)
          · exact H_11.out
          clear hK K
          refine wpAnyH_take (i := 5) (oi := _) (v := ?_) rfl (by kernel_rfl) (by kernel_rfl) (by kernel_rfl) (fun _ _ _ h => h) (Or.inl ⟨by rfl, ?_⟩) (by assumption) ?_
          rotate_left
          · (intro w hSw; (try dsimp only at hSw); go_simp; try with_reducible rfl)
          try simp only [List.getElem_toArray, List.getElem_cons_succ, List.getElem_cons_zero, Act.put, List.setIfInBounds_toArray, List.set_cons_zero, List.set_cons_succ]
          refine wpAnyH_take (i := 6) (oi := _) (v := ?_) rfl (by kernel_rfl) (by kernel_rfl) (by kernel_rfl) (fun _ _ _ h => h) (Or.inl ⟨by rfl, ?_⟩) (by assumption) ?_
          rotate_left
          · (intro w hSw; (try dsimp only at hSw); go_simp; try with_reducible rfl)
          try simp only [List.getElem_toArray, List.getElem_cons_succ, List.getElem_cons_zero, Act.put, List.setIfInBounds_toArray, List.set_cons_zero, List.set_cons_succ]
          refine wpAnyH_take (i := 7) (oi := _) (v := ?_) rfl (by kernel_rfl) (by kernel_rfl) (by kernel_rfl) (fun _ _ _ h => h) (Or.inl ⟨by rfl, ?_⟩) (by assumption) ?_
          rotate_left
          · (intro w hSw; (try dsimp only at hSw); go_simp; try with_reducible rfl)
          try simp only [List.getElem_toArray, List.getElem_cons_succ, List.getElem_cons_zero, Act.put, List.setIfInBounds_toArray, List.set_cons_zero, List.set_cons_succ]
          refine wpAnyH_ready (rs := [9]) (by kernel_rfl) (by simp) ?_
          refine AllReadyH.cons (o := _) rfl (fun K hK => ?_) AllReadyH.nil
          refine step_store_cl rfl _ _ rfl ((wr1).heap.size) rfl cl0 q11 rfl cl0 p30 Z_11.out ?_
          try simp only [List.getElem_toArray, List.getElem_cons_succ, List.getElem_cons_zero, Act.put, List.setIfInBounds_toArray, List.set_cons_zero, List.set_cons_succ]
          have X_12 : Hid (ClBox ((wv11).setRow ((wr1).heap.size) (clA cl0 q11)) ((wr1).heap.size) cl0 q11) := Lib.hid (ClBox.set Z_11.out)
          have B_12 : Hid (Below W5.heap.size W5 ((wv11).setRow ((wr1).heap.size) (clA cl0 q11))) := Lib.hid (below_setRow B_11.out hga9 _)
          have H_12 : Hid (ExBox ((wv11).setRow ((wr1).heap.size) (clA cl0 q11)) gx exA26) := Lib.hid (ExBox.other H_11.out (by have := hga9; omega))
          have D_12 : Hid (ClAt ((wv11).setRow ((wr1).heap.size) (clA cl0 q11)) cl0 q11) := Lib.hid (ClAt.setBlank' D_11.out HC0.out Z_11.out blank_cl _)
          (try clear hHeld)
          refine hK.out _ _ ?_ (fun hHeld => ?_)
          · exact H_12.out
          clear hK K
          refine wpAnyH_take (i := 10) (oi := _) (v := ?_) rfl (by kernel_rfl) (by kernel_rfl) (by kernel_rfl) (fun _ _ _ h => h) (Or.inl ⟨by rfl, ?_⟩) (by assumption) ?_
          rotate_left
          · (intro w hSw; (try dsimp only at hSw); go_simp; try with_reducible rfl)
          try simp only [List.getElem_toArray, List.getElem_cons_succ, List.getElem_cons_zero, Act.put, List.setIfInBounds_toArray, List.set_cons_zero, List.set_cons_succ]
          refine wpAnyH_done (by kernel_rfl) ?_ _
          go_wp2_with fail
          go_meet
          exact ⟨rfl, ⟨_, rfl⟩, B_12, H_12⟩
      · skip
        refine step_alloc_cl rfl rfl ?_
        try simp only [List.getElem_toArray, List.getElem_cons_succ, List.getElem_cons_zero, Act.put, List.setIfInBounds_toArray, List.set_cons_zero, List.set_cons_succ]
        have hb13 : Below (W5.drew).heap.size (W5.drew) ((W5.drew).alloc (clO cl0 p30)) := (Below.refl _ _).alloc (Nat.le_refl _) _
        have Z0_13 : Hid (ClBox ((W5.drew).alloc (clO cl0 p30)) (W5.drew).heap.size cl0 p30) := Lib.hid (ClBox.new _ _ _)
        have hga13 : W5.heap.size ≤ (W5.drew).heap.size := B_0.out.size
        have B_13 := Lib.hid (bthen B_0.out hb13)
        have H_13 := Lib.hid (H_0.out.below hb13)
        (try clear hHeld)
        refine hK.out _ _ ?_ (fun hHeld => ?_)
        · exact H_13.out
        clear hK K
        refine wpAnyH_ready (rs := [0]) (by kernel_rfl) (by simp) ?_
        refine AllReadyH.cons (o := _) rfl (fun K hK => ?_) AllReadyH.nil
        go_simp
        go_at_call 34; refine (ring_any _).mono ?_; rintro e wr14 ⟨⟨gr14, rfl, hr14, _⟩, hb14⟩
        replace hb14 : Below (((W5.drew).alloc (clO cl0 p30))).heap.size (((W5.drew).alloc (clO cl0 p30))) wr14 := hb14
        have B_14 := Lib.hid (bthen B_13.out hb14)
        have H_14 := Lib.hid (H_13.out.below hb14)
        have Z_14 := Lib.hid (ClBox.below Z0_13.out hb14)
        have R_14 := Lib.hid hr14
        clear hr14
        (try clear hHeld)
        refine hK.out _ _ ?_ (fun hHeld => ?_)
        · exact H_14.out
        clear hK K
        refine wpAnyH_ready (rs := [2]) (by kernel_rfl) (by simp) ?_
        refine AllReadyH.cons (o := _) rfl (fun K hK => ?_) AllReadyH.nil
        go_simp
        go_at_call 36; refine (other_any T _ (by have := HTZ.out; omega) (by have := HTZ.out; omega)).mono ?_; rintro e wo15 ⟨rfl, rfl⟩; rw [HO.out]
        (try clear hHeld)
        refine hK.out _ _ ?_ (fun hHeld => ?_)
        · exact H_14.out
        clear hK K
        refine wpAnyH_ready (rs := [4]) (by kernel_rfl) (by simp) ?_
        refine AllReadyH.cons (o := _) rfl (fun K hK => ?_) AllReadyH.nil
        go_simp
        go_at_call 17; refine (verify26_any [ringK] (some ⟨gr14, 0, none⟩) 1 O exA26 _ ?_ ?_ ?_ ?_ ?_ ?_ ?_ ?_).mono ?_
        · exact HD5.out.below B_14.out
        · exact HP5.out.below B_14.out
        · exact HK5.out.below B_14.out
        · exact HE5.out.below B_14.out
        · exact R_14.out
        · decide
        · have := HTZ.out; have := HOZ.out; omega
        · exact ring_sec
        rintro e wv16 ⟨⟨q16, rfl, ha16, hi16⟩, hb16⟩
        replace hb16 : Below (wr14).heap.size (wr14) wv16 := hb16
        rw [HVO.out, HVOC.out]
        rw [HVOC.out] at ha16 hi16
        have B_16 := Lib.hid (bthen B_14.out hb16)
        have H_16 := Lib.hid (H_14.out.below hb16)
        have Z_16 := Lib.hid (ClBox.below Z_14.out hb16)
        have R_16 := Lib.hid (R_14.out.below hb16)
        have D_16 := Lib.hid ha16
        have I_16 := Lib.hid hi16
        clear ha16 hi16
        (try clear hHeld)
        refine hK.out _ _ ?_ (fun hHeld => ?_)
        · exact H_16.out
        clear hK K
        refine wpAnyH_take (i := 5) (oi := _) (v := ?_) rfl (by kernel_rfl) (by kernel_rfl) (by kernel_rfl) (fun _ _ _ h => h) (Or.inl ⟨by rfl, ?_⟩) (by assumption) ?_
        rotate_left
        · (intro w hSw; (try dsimp only at hSw); go_simp; try with_reducible rfl)
        try simp only [List.getElem_toArray, List.getElem_cons_succ, List.getElem_cons_zero, Act.put, List.setIfInBounds_toArray, List.set_cons_zero, List.set_cons_succ]
        refine wpAnyH_take (i := 6) (oi := _) (v := ?_) rfl (by kernel_rfl) (by kernel_rfl) (by kernel_rfl) (fun _ _ _ h => h) (Or.inl ⟨by rfl, ?_⟩) (by assumption) ?_
        rotate_left
        · (intro w hSw; (try dsimp only at hSw); go_simp; try with_reducible rfl)
        try simp only [List.getElem_toArray, List.getElem_cons_succ, List.getElem_cons_zero, Act.put, List.setIfInBounds_toArray, List.set_cons_zero, List.set_cons_succ]
        refine wpAnyH_take (i := 7) (oi := _) (v := ?_) rfl (by kernel_rfl) (by kernel_rfl) (by kernel_rfl) (fun _ _ _ h => h) (Or.inl ⟨by rfl, ?_⟩) (by assumption) ?_
        rotate_left
        · (intro w hSw; (try dsimp only at hSw); go_simp; try with_reducible rfl)
        try simp only [List.getElem_toArray, List.getElem_cons_succ, List.getElem_cons_zero, Act.put, List.setIfInBounds_toArray, List.set_cons_zero, List.set_cons_succ]
        refine wpAnyH_ready (rs := [9]) (by kernel_rfl) (by simp) ?_
        refine AllReadyH.cons (o := _) rfl (fun K hK => ?_) AllReadyH.nil
        refine step_store_cl rfl _ _ rfl ((W5.drew).heap.size) rfl cl0 q16 rfl cl0 p30 Z_16.out ?_
        try simp only [List.getElem_toArray, List.getElem_cons_succ, List.getElem_cons_zero, Act.put, List.setIfInBounds_toArray, List.set_cons_zero, List.set_cons_succ]
        have X_17 : Hid (ClBox ((wv16).setRow ((W5.drew).heap.size) (clA cl0 q16)) ((W5.drew).heap.size) cl0 q16) := Lib.hid (ClBox.set Z_16.out)
        have B_17 : Hid (Below W5.heap.size W5 ((wv16).setRow ((W5.drew).heap.size) (clA cl0 q16))) := Lib.hid (below_setRow B_16.out hga13 _)
        have H_17 : Hid (ExBox ((wv16).setRow ((W5.drew).heap.size) (clA cl0 q16)) gx exA26) := Lib.hid (ExBox.other H_16.out (by have := hga13; omega))
        have D_17 : Hid (ClAt ((wv16).setRow ((W5.drew).heap.size) (clA cl0 q16)) cl0 q16) := Lib.hid (ClAt.setBlank' D_16.out HC0.out Z_16.out blank_cl _)
        (try clear hHeld)
        refine hK.out _ _ ?_ (fun hHeld => ?_)
        · exact H_17.out
        clear hK K
        refine wpAnyH_take (i := 10) (oi := _) (v := ?_) rfl (by kernel_rfl) (by kernel_rfl) (by kernel_rfl) (fun _ _ _ h => h) (Or.inl ⟨by rfl, ?_⟩) (by assumption) ?_
        rotate_left
        · (intro w hSw; (try dsimp only at hSw); go_simp; try with_reducible rfl)
        try simp only [List.getElem_toArray, List.getElem_cons_succ, List.getElem_cons_zero, Act.put, List.setIfInBounds_toArray, List.set_cons_zero, List.set_cons_succ]
        refine wpAnyH_done (by kernel_rfl) ?_ _
        go_wp2_with fail
        go_meet
        exact ⟨rfl, ⟨_, rfl⟩, B_17, H_17⟩
    case rest =>
      obtain ⟨rfl, ⟨gd, rfl⟩, BY, HY⟩ := hcut
      generalize wc = W6 at *
      have B6 := Lib.hid (bthen B5.out BY.out)
      have XC6 := Lib.hid (XC.out.below BY.out)
      have AC6 := Lib.hid (AC.out.below BY.out)
      have c2 : W6.cell? ⟨gx, 2, none⟩ = some (.string ⟨#[109, 97, 105, 108]⟩) := cell_of_row _ _ 2 _ _ (0, 0) HY.out
      have f2 : W6.frozen? ⟨gx, 2, none⟩ = false := frozen_of_row _ _ 2 _ _ HY.out
      have H7 : Hid (ExBox (W6.setCell ⟨gx, 2, none⟩ (.string ⟨#[102, 105, 108, 101, 115]⟩)) gx exB26) := Lib.hid (HY.out.put 2 _ rfl)
      have hgw6 : w.heap.size ≤ gx := hgw
      have B7 : Hid (Below w.heap.size w (W6.setCell ⟨gx, 2, none⟩ (.string ⟨#[102, 105, 108, 101, 115]⟩))) := Lib.hid (B6.out.setCell hgw6 _)
      have hz67 : (W6.setCell ⟨gx, 2, none⟩ (.string ⟨#[102, 105, 108, 101, 115]⟩)).heap.size = W6.heap.size := by simp
      have HO67 : Hid (∀ a, a ≠ ⟨gx, 2, none⟩ → (W6.setCell ⟨gx, 2, none⟩ (.string ⟨#[102, 105, 108, 101, 115]⟩)).cell? a = W6.cell? a) := Lib.hid (fun a h => World.cell?_setCell_other _ _ _ _ (fun e => h e.symm))
      have XC7 : Hid (ClBox (W6.setCell ⟨gx, 2, none⟩ (.string ⟨#[102, 105, 108, 101, 115]⟩)) gc sm26 qc) := Lib.hid ((heap_setCell_other W6 ⟨gx, 2, none⟩ gc _ hgcx).trans XC6.out)
      have HA6 : Hid (ExBox W6 gx exA26) := HY
      clear HX BX HD5 HP5 HK5 HE5 B5 XC AC BY HY
      go_upto_region 8 with fail
      obtain ⟨W7, HW7⟩ : ∃ W, Hid ((W6.setCell ⟨gx, 2, none⟩ (.string ⟨#[102, 105, 108, 101, 115]⟩)) = W) := ⟨_, Lib.hid rfl⟩
      rw [HW7.out] at H7 B7 XC7 HO67 hz67
      rw [HW7.out]
      clear c2 f2 HW7
      have HZ67 := Lib.hid hz67
      clear hz67
      have HD7 := Lib.hid (HDw.out.below B7.out)
      have HP7 := Lib.hid (HPw.out.below B7.out)
      have HK7 := Lib.hid (HKw.out.below B7.out)
      have HE7 := Lib.hid (HEw.out.below B7.out)
      have hgx7 : gx < W7.heap.size := (Array.getElem?_eq_some_iff.1 H7.out).1
      go_cut [7, 8] (fun v7 v8 wx => v8 = .int .i64 15 ∧ (∃ g, v7 = .pointer (some ⟨g, 0, none⟩)) ∧ Hid (Below W7.heap.size W7 wx) ∧ Hid (ExBox wx gx exB26))
      case first =>
        refine wp_region_held_drew (S := fun w' => ExBox w' gx exB26) (by kernel_rfl) ?_ (fun hHeld => ?_)
        · exact H7.out
        have B_0 : Hid (Below W7.heap.size W7 W7.drew) := Lib.hid (Below.refl _ _).drew
        have H_0 : Hid (ExBox W7.drew gx exB26) := Lib.hid H7.out
        refine wpAnyH_take (i := 1) (oi := _) (v := ?_) rfl (by kernel_rfl) (by kernel_rfl) (by kernel_rfl) (fun _ _ _ h => h) (Or.inl ⟨by rfl, ?_⟩) (by assumption) ?_
        rotate_left
        · (intro w hSw; (try dsimp only at hSw); go_simp; try with_reducible rfl)
        try simp only [List.getElem_toArray, List.getElem_cons_succ, List.getElem_cons_zero, Act.put, List.setIfInBounds_toArray, List.set_cons_zero, List.set_cons_succ]
        refine wpAnyH_take (i := 2) (oi := _) (v := exV exB26) rfl (by kernel_rfl) (by kernel_rfl) (by kernel_rfl) (fun _ _ _ h => h) (yields_load_ex (by rfl) _ rfl gx rfl exB26 (fun _ h => h)) (by assumption) ?_
        try simp only [List.getElem_toArray, List.getElem_cons_succ, List.getElem_cons_zero, Act.put, List.setIfInBounds_toArray, List.set_cons_zero, List.set_cons_succ]
        refine wpAnyH_ready (rs := [0, 7]) (by kernel_rfl) (by simp) ?_
        refine AllReadyH.cons (o := _) rfl (fun K hK => ?_) (AllReadyH.cons (o := _) rfl (fun K hK => ?_) AllReadyH.nil)
        · skip
          go_simp
          go_at_call 34; refine (ring_any _).mono ?_; rintro e wr1 ⟨⟨gr1, rfl, hr1, _⟩, hb1⟩
          replace hb1 : Below (W7.drew).heap.size (W7.drew) wr1 := hb1
          have B_1 := Lib.hid (bthen B_0.out hb1)
          have H_1 := Lib.hid (H_0.out.below hb1)
          have R_1 := Lib.hid hr1
          clear hr1
          (try clear hHeld)
          refine hK.out _ _ ?_ (fun hHeld => ?_)
          · exact H_1.out
          clear hK K
          refine wpAnyH_ready (rs := [3, 7]) (by kernel_rfl) (by simp) ?_
          refine AllReadyH.cons (o := _) rfl (fun K hK => ?_) (AllReadyH.cons (o := _) rfl (fun K hK => ?_) AllReadyH.nil)
          · skip
            go_simp
            go_at_call 17; refine (verify26_any [ringK] (some ⟨gr1, 0, none⟩) 1 T exB26 _ ?_ ?_ ?_ ?_ ?_ ?_ ?_ ?_).mono ?_
            · exact HD7.out.below B_1.out
            · exact HP7.out.below B_1.out
            · exact HK7.out.below B_1.out
            · exact HE7.out.below B_1.out
            · exact R_1.out
            · decide
            · have := HTZ.out; have := HOZ.out; omega
            · exact ring_sec
            rintro e wv2 ⟨⟨q2, rfl, ha2, hi2⟩, hb2⟩
            replace hb2 : Below (wr1).heap.size (wr1) wv2 := hb2
            rw [HVB.out, HVBC.out]
            rw [HVBC.out] at ha2 hi2
            have B_2 := Lib.hid (bthen B_1.out hb2)
            have H_2 := Lib.hid (H_1.out.below hb2)
            have R_2 := Lib.hid (R_1.out.below hb2)
            have D_2 := Lib.hid ha2
            have I_2 := Lib.hid hi2
            clear ha2 hi2
            (try clear hHeld)
            refine hK.out _ _ ?_ (fun hHeld => ?_)
            · exact H_2.out
            clear hK K
            refine wpAnyH_take (i := 4) (oi := _) (v := ?_) rfl (by kernel_rfl) (by kernel_rfl) (by kernel_rfl) (fun _ _ _ h => h) (Or.inl ⟨by rfl, ?_⟩) (by assumption) ?_
            rotate_left
            · (intro w hSw; (try dsimp only at hSw); go_simp; try with_reducible rfl)
            try simp only [List.getElem_toArray, List.getElem_cons_succ, List.getElem_cons_zero, Act.put, List.setIfInBounds_toArray, List.set_cons_zero, List.set_cons_succ]
            refine wpAnyH_take (i := 5) (oi := _) (v := ?_) rfl (by kernel_rfl) (by kernel_rfl) (by kernel_rfl) (fun _ _ _ h => h) (Or.inl ⟨by rfl, ?_⟩) (by assumption) ?_
            rotate_left
            · (intro w hSw; (try dsimp only at hSw); go_simp; try with_reducible rfl)
            try simp only [List.getElem_toArray, List.getElem_cons_succ, List.getElem_cons_zero, Act.put, List.setIfInBounds_toArray, List.set_cons_zero, List.set_cons_succ]
            refine wpAnyH_take (i := 6) (oi := _) (v := ?_) rfl (by kernel_rfl) (by kernel_rfl) (by kernel_rfl) (fun _ _ _ h => h) (Or.inl ⟨by rfl, ?_⟩) (by assumption) ?_
            rotate_left
            · (intro w hSw; (try dsimp only at hSw); go_simp; try with_reducible rfl)
            try simp only [List.getElem_toArray, List.getElem_cons_succ, List.getElem_cons_zero, Act.put, List.setIfInBounds_toArray, List.set_cons_zero, List.set_cons_succ]
            refine wpAnyH_ready (rs := [7]) (by kernel_rfl) (by simp) ?_
            refine AllReadyH.cons (o := _) rfl (fun K hK => ?_) AllReadyH.nil
            refine step_alloc_cl rfl rfl ?_
            try simp only [List.getElem_toArray, List.getElem_cons_succ, List.getElem_cons_zero, Act.put, List.setIfInBounds_toArray, List.set_cons_zero, List.set_cons_succ]
            have hb3 : Below (wv2).heap.size (wv2) ((wv2).alloc (clO cl0 p30)) := (Below.refl _ _).alloc (Nat.le_refl _) _
            have Z0_3 : Hid (ClBox ((wv2).alloc (clO cl0 p30)) (wv2).heap.size cl0 p30) := Lib.hid (ClBox.new _ _ _)
            have hga3 : W7.heap.size ≤ (wv2).heap.size := B_2.out.size
            have B_3 := Lib.hid (bthen B_2.out hb3)
            have H_3 := Lib.hid (H_2.out.below hb3)
            have R_3 := Lib.hid (R_2.out.below hb3)
            have D_3 := Lib.hid (D_2.out.below hb3)
            (try clear hHeld)
            refine hK.out _ _ ?_ (fun hHeld => ?_)
            · exact H_3.out
            clear hK K
            refine wpAnyH_ready (rs := [8]) (by kernel_rfl) (by simp) ?_
            refine AllReadyH.cons (o := _) rfl (fun K hK => ?_) AllReadyH.nil
            refine step_store_cl rfl _ _ rfl ((wv2).heap.size) rfl cl0 q2 rfl cl0 p30 Z0_3.out ?_
            try simp only [List.getElem_toArray, List.getElem_cons_succ, List.getElem_cons_zero, Act.put, List.setIfInBounds_toArray, List.set_cons_zero, List.set_cons_succ]
            have X_4 : Hid (ClBox ((((wv2).alloc (clO cl0 p30))).setRow ((wv2).heap.size) (clA cl0 q2)) ((wv2).heap.size) cl0 q2) := Lib.hid (ClBox.set Z0_3.out)
            have B_4 : Hid (Below W7.heap.size W7 ((((wv2).alloc (clO cl0 p30))).setRow ((wv2).heap.size) (clA cl0 q2))) := Lib.hid (below_setRow B_3.out hga3 _)
            have H_4 : Hid (ExBox ((((wv2).alloc (clO cl0 p30))).setRow ((wv2).heap.size) (clA cl0 q2)) gx exB26) := Lib.hid (ExBox.other H_3.out (by have := hga3; omega))
            have D_4 : Hid (ClAt ((((wv2).alloc (clO cl0 p30))).setRow ((wv2).heap.size) (clA cl0 q2)) cl0 q2) := Lib.hid (ClAt.setBlank' D_3.out HC0.out Z0_3.out blank_cl _)
            (try clear hHeld)
            refine hK.out _ _ ?_ (fun hHeld => ?_)
            · exact H_4.out
            clear hK K
            refine wpAnyH_take (i := 9) (oi := _) (v := ?_) rfl (by kernel_rfl) (by kernel_rfl) (by kernel_rfl) (fun _ _ _ h => h) (Or.inl ⟨by rfl, ?_⟩) (by assumption) ?_
            rotate_left
            · (intro w hSw; (try dsimp only at hSw); go_simp; try with_reducible rfl)
            try simp only [List.getElem_toArray, List.getElem_cons_succ, List.getElem_cons_zero, Act.put, List.setIfInBounds_toArray, List.set_cons_zero, List.set_cons_succ]
            refine wpAnyH_done (by kernel_rfl) ?_ _
            go_wp2_with fail
            go_meet
            exact ⟨rfl, ⟨_, rfl⟩, B_4, H_4⟩
          · skip
            refine step_alloc_cl rfl rfl ?_
            try simp only [List.getElem_toArray, List.getElem_cons_succ, List.getElem_cons_zero, Act.put, List.setIfInBounds_toArray, List.set_cons_zero, List.set_cons_succ]
            have hb5 : Below (wr1).heap.size (wr1) ((wr1).alloc (clO cl0 p30)) := (Below.refl _ _).alloc (Nat.le_refl _) _
            have Z0_5 : Hid (ClBox ((wr1).alloc (clO cl0 p30)) (wr1).heap.size cl0 p30) := Lib.hid (ClBox.new _ _ _)
            have hga5 : W7.heap.size ≤ (wr1).heap.size := B_1.out.size
            have B_5 := Lib.hid (bthen B_1.out hb5)
            have H_5 := Lib.hid (H_1.out.below hb5)
            have R_5 := Lib.hid (R_1.out.below hb5)
            (try clear hHeld)
            refine hK.out _ _ ?_ (fun hHeld => ?_)
            · exact H_5.out
            clear hK K
            refine wpAnyH_ready (rs := [3]) (by kernel_rfl) (by simp) ?_
            refine AllReadyH.cons (o := _) rfl (fun K hK => ?_) AllReadyH.nil
            go_simp
            go_at_call 17; refine (verify26_any [ringK] (some ⟨gr1, 0, none⟩) 1 T exB26 _ ?_ ?_ ?_ ?_ ?_ ?_ ?_ ?_).mono ?_
            · exact HD7.out.below B_5.out
            · exact HP7.out.below B_5.out
            · exact HK7.out.below B_5.out
            · exact HE7.out.below B_5.out
            · exact R_5.out
            · decide
            · have := HTZ.out; have := HOZ.out; omega
            · exact ring_sec
            rintro e wv6 ⟨⟨q6, rfl, ha6, hi6⟩, hb6⟩
            replace hb6 : Below (((wr1).alloc (clO cl0 p30))).heap.size (((wr1).alloc (clO cl0 p30))) wv6 := hb6
            rw [HVB.out, HVBC.out]
            rw [HVBC.out] at ha6 hi6
            have B_6 := Lib.hid (bthen B_5.out hb6)
            have H_6 := Lib.hid (H_5.out.below hb6)
            have R_6 := Lib.hid (R_5.out.below hb6)
            have Z_6 := Lib.hid (ClBox.below Z0_5.out hb6)
            have D_6 := Lib.hid ha6
            have I_6 := Lib.hid hi6
            clear ha6 hi6
            (try clear hHeld)
            refine hK.out _ _ ?_ (fun hHeld => ?_)
            · exact H_6.out
            clear hK K
            refine wpAnyH_take (i := 4) (oi := _) (v := ?_) rfl (by kernel_rfl) (by kernel_rfl) (by kernel_rfl) (fun _ _ _ h => h) (Or.inl ⟨by rfl, ?_⟩) (by assumption) ?_
            rotate_left
            · (intro w hSw; (try dsimp only at hSw); go_simp; try with_reducible rfl)
            try simp only [List.getElem_toArray, List.getElem_cons_succ, List.getElem_cons_zero, Act.put, List.setIfInBounds_toArray, List.set_cons_zero, List.set_cons_succ]
            refine wpAnyH_take (i := 5) (oi := _) (v := ?_) rfl (by kernel_rfl) (by kernel_rfl) (by kernel_rfl) (fun _ _ _ h => h) (Or.inl ⟨by rfl, ?_⟩) (by assumption) ?_
            rotate_left
            · (intro w hSw; (try dsimp only at hSw); go_simp; try with_reducible rfl)
            try simp only [List.getElem_toArray, List.getElem_cons_succ, List.getElem_cons_zero, Act.put, List.setIfInBounds_toArray, List.set_cons_zero, List.set_cons_succ]
            refine wpAnyH_take (i := 6) (oi := _) (v := ?_) rfl (by kernel_rfl) (by kernel_rfl) (by kernel_rfl) (fun _ _ _ h => h) (Or.inl ⟨by rfl, ?_⟩) (by assumption) ?_
            rotate_left
            · (intro w hSw; (try dsimp only at hSw); go_simp; try with_reducible rfl)
            try simp only [List.getElem_toArray, List.getElem_cons_succ, List.getElem_cons_zero, Act.put, List.setIfInBounds_toArray, List.set_cons_zero, List.set_cons_succ]
            refine wpAnyH_ready (rs := [8]) (by kernel_rfl) (by simp) ?_
            refine AllReadyH.cons (o := _) rfl (fun K hK => ?_) AllReadyH.nil
            refine step_store_cl rfl _ _ rfl ((wr1).heap.size) rfl cl0 q6 rfl cl0 p30 Z_6.out ?_
            try simp only [List.getElem_toArray, List.getElem_cons_succ, List.getElem_cons_zero, Act.put, List.setIfInBounds_toArray, List.set_cons_zero, List.set_cons_succ]
            have X_7 : Hid (ClBox ((wv6).setRow ((wr1).heap.size) (clA cl0 q6)) ((wr1).heap.size) cl0 q6) := Lib.hid (ClBox.set Z_6.out)
            have B_7 : Hid (Below W7.heap.size W7 ((wv6).setRow ((wr1).heap.size) (clA cl0 q6))) := Lib.hid (below_setRow B_6.out hga5 _)
            have H_7 : Hid (ExBox ((wv6).setRow ((wr1).heap.size) (clA cl0 q6)) gx exB26) := Lib.hid (ExBox.other H_6.out (by have := hga5; omega))
            have D_7 : Hid (ClAt ((wv6).setRow ((wr1).heap.size) (clA cl0 q6)) cl0 q6) := Lib.hid (ClAt.setBlank' D_6.out HC0.out Z_6.out blank_cl _)
            (try clear hHeld)
            refine hK.out _ _ ?_ (fun hHeld => ?_)
            · exact H_7.out
            clear hK K
            refine wpAnyH_take (i := 9) (oi := _) (v := ?_) rfl (by kernel_rfl) (by kernel_rfl) (by kernel_rfl) (fun _ _ _ h => h) (Or.inl ⟨by rfl, ?_⟩) (by assumption) ?_
            rotate_left
            · (intro w hSw; (try dsimp only at hSw); go_simp; try with_reducible rfl)
            try simp only [List.getElem_toArray, List.getElem_cons_succ, List.getElem_cons_zero, Act.put, List.setIfInBounds_toArray, List.set_cons_zero, List.set_cons_succ]
            refine wpAnyH_done (by kernel_rfl) ?_ _
            go_wp2_with fail
            go_meet
            exact ⟨rfl, ⟨_, rfl⟩, B_7, H_7⟩
        · skip
          refine step_alloc_cl rfl rfl ?_
          try simp only [List.getElem_toArray, List.getElem_cons_succ, List.getElem_cons_zero, Act.put, List.setIfInBounds_toArray, List.set_cons_zero, List.set_cons_succ]
          have hb8 : Below (W7.drew).heap.size (W7.drew) ((W7.drew).alloc (clO cl0 p30)) := (Below.refl _ _).alloc (Nat.le_refl _) _
          have Z0_8 : Hid (ClBox ((W7.drew).alloc (clO cl0 p30)) (W7.drew).heap.size cl0 p30) := Lib.hid (ClBox.new _ _ _)
          have hga8 : W7.heap.size ≤ (W7.drew).heap.size := B_0.out.size
          have B_8 := Lib.hid (bthen B_0.out hb8)
          have H_8 := Lib.hid (H_0.out.below hb8)
          (try clear hHeld)
          refine hK.out _ _ ?_ (fun hHeld => ?_)
          · exact H_8.out
          clear hK K
          refine wpAnyH_ready (rs := [0]) (by kernel_rfl) (by simp) ?_
          refine AllReadyH.cons (o := _) rfl (fun K hK => ?_) AllReadyH.nil
          go_simp
          go_at_call 34; refine (ring_any _).mono ?_; rintro e wr9 ⟨⟨gr9, rfl, hr9, _⟩, hb9⟩
          replace hb9 : Below (((W7.drew).alloc (clO cl0 p30))).heap.size (((W7.drew).alloc (clO cl0 p30))) wr9 := hb9
          have B_9 := Lib.hid (bthen B_8.out hb9)
          have H_9 := Lib.hid (H_8.out.below hb9)
          have Z_9 := Lib.hid (ClBox.below Z0_8.out hb9)
          have R_9 := Lib.hid hr9
          clear hr9
          (try clear hHeld)
          refine hK.out _ _ ?_ (fun hHeld => ?_)
          · exact H_9.out
          clear hK K
          refine wpAnyH_ready (rs := [3]) (by kernel_rfl) (by simp) ?_
          refine AllReadyH.cons (o := _) rfl (fun K hK => ?_) AllReadyH.nil
          go_simp
          go_at_call 17; refine (verify26_any [ringK] (some ⟨gr9, 0, none⟩) 1 T exB26 _ ?_ ?_ ?_ ?_ ?_ ?_ ?_ ?_).mono ?_
          · exact HD7.out.below B_9.out
          · exact HP7.out.below B_9.out
          · exact HK7.out.below B_9.out
          · exact HE7.out.below B_9.out
          · exact R_9.out
          · decide
          · have := HTZ.out; have := HOZ.out; omega
          · exact ring_sec
          rintro e wv10 ⟨⟨q10, rfl, ha10, hi10⟩, hb10⟩
          replace hb10 : Below (wr9).heap.size (wr9) wv10 := hb10
          rw [HVB.out, HVBC.out]
          rw [HVBC.out] at ha10 hi10
          have B_10 := Lib.hid (bthen B_9.out hb10)
          have H_10 := Lib.hid (H_9.out.below hb10)
          have Z_10 := Lib.hid (ClBox.below Z_9.out hb10)
          have R_10 := Lib.hid (R_9.out.below hb10)
          have D_10 := Lib.hid ha10
          have I_10 := Lib.hid hi10
          clear ha10 hi10
          (try clear hHeld)
          refine hK.out _ _ ?_ (fun hHeld => ?_)
          · exact H_10.out
          clear hK K
          refine wpAnyH_take (i := 4) (oi := _) (v := ?_) rfl (by kernel_rfl) (by kernel_rfl) (by kernel_rfl) (fun _ _ _ h => h) (Or.inl ⟨by rfl, ?_⟩) (by assumption) ?_
          rotate_left
          · (intro w hSw; (try dsimp only at hSw); go_simp; try with_reducible rfl)
          try simp only [List.getElem_toArray, List.getElem_cons_succ, List.getElem_cons_zero, Act.put, List.setIfInBounds_toArray, List.set_cons_zero, List.set_cons_succ]
          refine wpAnyH_take (i := 5) (oi := _) (v := ?_) rfl (by kernel_rfl) (by kernel_rfl) (by kernel_rfl) (fun _ _ _ h => h) (Or.inl ⟨by rfl, ?_⟩) (by assumption) ?_
          rotate_left
          · (intro w hSw; (try dsimp only at hSw); go_simp; try with_reducible rfl)
          try simp only [List.getElem_toArray, List.getElem_cons_succ, List.getElem_cons_zero, Act.put, List.setIfInBounds_toArray, List.set_cons_zero, List.set_cons_succ]
          refine wpAnyH_take (i := 6) (oi := _) (v := ?_) rfl (by kernel_rfl) (by kernel_rfl) (by kernel_rfl) (fun _ _ _ h => h) (Or.inl ⟨by rfl, ?_⟩) (by assumption) ?_
          rotate_left
          · (intro w hSw; (try dsimp only at hSw); go_simp; try with_reducible rfl)
          try simp only [List.getElem_toArray, List.getElem_cons_succ, List.getElem_cons_zero, Act.put, List.setIfInBounds_toArray, List.set_cons_zero, List.set_cons_succ]
          refine wpAnyH_ready (rs := [8]) (by kernel_rfl) (by simp) ?_
          refine AllReadyH.cons (o := _) rfl (fun K hK => ?_) AllReadyH.nil
          refine step_store_cl rfl _ _ rfl ((W7.drew).heap.size) rfl cl0 q10 rfl cl0 p30 Z_10.out ?_
          try simp only [List.getElem_toArray, List.getElem_cons_succ, List.getElem_cons_zero, Act.put, List.setIfInBounds_toArray, List.set_cons_zero, List.set_cons_succ]
          have X_11 : Hid (ClBox ((wv10).setRow ((W7.drew).heap.size) (clA cl0 q10)) ((W7.drew).heap.size) cl0 q10) := Lib.hid (ClBox.set Z_10.out)
          have B_11 : Hid (Below W7.heap.size W7 ((wv10).setRow ((W7.drew).heap.size) (clA cl0 q10))) := Lib.hid (below_setRow B_10.out hga8 _)
          have H_11 : Hid (ExBox ((wv10).setRow ((W7.drew).heap.size) (clA cl0 q10)) gx exB26) := Lib.hid (ExBox.other H_10.out (by have := hga8; omega))
          have D_11 : Hid (ClAt ((wv10).setRow ((W7.drew).heap.size) (clA cl0 q10)) cl0 q10) := Lib.hid (ClAt.setBlank' D_10.out HC0.out Z_10.out blank_cl _)
          (try clear hHeld)
          refine hK.out _ _ ?_ (fun hHeld => ?_)
          · exact H_11.out
          clear hK K
          refine wpAnyH_take (i := 9) (oi := _) (v := ?_) rfl (by kernel_rfl) (by kernel_rfl) (by kernel_rfl) (fun _ _ _ h => h) (Or.inl ⟨by rfl, ?_⟩) (by assumption) ?_
          rotate_left
          · (intro w hSw; (try dsimp only at hSw); go_simp; try with_reducible rfl)
          try simp only [List.getElem_toArray, List.getElem_cons_succ, List.getElem_cons_zero, Act.put, List.setIfInBounds_toArray, List.set_cons_zero, List.set_cons_succ]
          refine wpAnyH_done (by kernel_rfl) ?_ _
          go_wp2_with fail
          go_meet
          exact ⟨rfl, ⟨_, rfl⟩, B_11, H_11⟩
      case rest =>
        obtain ⟨rfl, ⟨ge, rfl⟩, BY, HY⟩ := hcut
        generalize wc = W8 at *
        have B8 := Lib.hid (bthen B7.out BY.out)
        have XC8 := Lib.hid (XC7.out.below BY.out)
        go_wp2_with fail
        refine (split26_any ⟨#[97, 46, 98]⟩ _ (HDw.out.below B8.out) (by decide)).mono ?_
        rintro e w9 ⟨⟨_, _, _, _, ht, _, _, _⟩ | ⟨rfl, _⟩, hb9⟩
        · exact absurd ht (ab_no _ _ _)
        have B9 := Lib.hid (bthen B8.out hb9)
        have H9 := Lib.hid (HY.out.below hb9)
        have XC9 := Lib.hid (XC8.out.below hb9)
        have HCL : Hid (∀ a : Addr, a.block < W6.heap.size → a ≠ ⟨gx, 2, none⟩ → w9.cell? a = W6.cell? a) := Lib.hid (fun a h1 h2 => (((BY.out.trans (hb9.mono BY.out.size)).cell (p := a) (by rw [HZ67.out]; exact h1))).trans (HO67.out a h2))
        clear hb9 BY HY B8 XC8 B7 H7 XC7 HD7 HP7 HK7 HE7
        have c2 : w9.cell? ⟨gx, 2, none⟩ = some (.string ⟨#[102, 105, 108, 101, 115]⟩) := cell_of_row _ _ 2 _ _ (0, 0) H9.out
        have f2 : w9.frozen? ⟨gx, 2, none⟩ = false := frozen_of_row _ _ 2 _ _ H9.out
        have c5 : w9.cell? ⟨gx, 5, none⟩ = some (.int .i64 0) := cell_of_row _ _ 5 _ _ (0, 0) H9.out
        have f5 : w9.frozen? ⟨gx, 5, none⟩ = false := frozen_of_row _ _ 5 _ _ H9.out
        have HT0 : Hid (ExBox ((w9.setCell ⟨gx, 2, none⟩ (.string ⟨#[109, 97, 105, 108]⟩)).setCell ⟨gx, 5, none⟩ (.int .i64 5)) gx exC26) := Lib.hid (ExBox.put (x := exA26) (H9.out.put 2 _ rfl) 5 _ rfl)
        have HTB : Hid (Below w.heap.size w ((w9.setCell ⟨gx, 2, none⟩ (.string ⟨#[109, 97, 105, 108]⟩)).setCell ⟨gx, 5, none⟩ (.int .i64 5))) := Lib.hid ((B9.out.setCell hgw6 _).setCell hgw6 _)
        have HTX : Hid (ClBox ((w9.setCell ⟨gx, 2, none⟩ (.string ⟨#[109, 97, 105, 108]⟩)).setCell ⟨gx, 5, none⟩ (.int .i64 5)) gc sm26 qc) := Lib.hid ((heap_setCell_other _ ⟨gx, 5, none⟩ gc _ hgcx).trans ((heap_setCell_other _ ⟨gx, 2, none⟩ gc _ hgcx).trans XC9.out))
        have HTS : Hid (∀ a s, W6.cell? a = some (.string s) → ((w9.setCell ⟨gx, 2, none⟩ (.string ⟨#[109, 97, 105, 108]⟩)).setCell ⟨gx, 5, none⟩ (.int .i64 5)).cell? a = some (.string s)) := Lib.hid (fun a s h => by
          have hb := World.block_lt_of_cell? W6 _ h
          by_cases h5 : a = ⟨gx, 5, none⟩
          · subst h5
            have : W6.cell? ⟨gx, 5, none⟩ = some (.int .i64 0) := cell_of_row _ _ 5 _ _ (0, 0) HA6.out
            rw [this] at h
            cases h
          · rw [World.cell?_setCell_other _ _ _ _ (fun e => h5 e.symm)]
            by_cases h2 : a = ⟨gx, 2, none⟩
            · subst h2
              have : W6.cell? ⟨gx, 2, none⟩ = some (.string ⟨#[109, 97, 105, 108]⟩) := cell_of_row _ _ 2 _ _ (0, 0) HA6.out
              rw [this] at h
              rw [World.cell?_setCell_same _ _ _ c2]
              exact h
            · rw [World.cell?_setCell_other _ _ _ _ (fun e => h2 e.symm), HCL.out a hb h2]
              exact h)
        have HTA : Hid (ClAt ((w9.setCell ⟨gx, 2, none⟩ (.string ⟨#[109, 97, 105, 108]⟩)).setCell ⟨gx, 5, none⟩ (.int .i64 5)) sm26 qc) := Lib.hid (AC6.out.same HTS.out)
        go_upto_region 11 with fail
        obtain ⟨V, HV⟩ : ∃ W, Hid (((w9.setCell ⟨gx, 2, none⟩ (.string ⟨#[109, 97, 105, 108]⟩)).setCell ⟨gx, 5, none⟩ (.int .i64 5)) = W) := ⟨_, Lib.hid rfl⟩
        rw [HV.out] at HT0 HTB HTX HTA
        rw [HV.out]
        clear c2 f2 c5 f5 HTS HCL HV H9 B9 XC9
        refine wp_region_held_drew (S := fun w' => ExBox w' gx exC26 ∧ ClBox w' gc sm26 qc) (by kernel_rfl) ?_ (fun hHeld => ?_)
        · exact ⟨HT0.out, HTX.out⟩
        have Bd : Hid (Below w.heap.size w V.drew) := Lib.hid HTB.out.drew
        have Hd : Hid (ExBox V.drew gx exC26 ∧ ClBox V.drew gc sm26 qc) := Lib.hid ⟨HT0.out, HTX.out⟩
        have Ad : Hid (ClAt V.drew sm26 qc) := Lib.hid (HTA.out.below (Below.refl _ _).drew)
        refine wpAnyH_take (i := 0) (oi := _) (v := ?_) rfl (by kernel_rfl) (by kernel_rfl) (by kernel_rfl) (fun _ _ _ h => h) (Or.inl ⟨by rfl, ?_⟩) (by assumption) ?_
        rotate_left
        · (intro w hSw; (try dsimp only at hSw); go_simp; try with_reducible rfl)
        try simp only [List.getElem_toArray, List.getElem_cons_succ, List.getElem_cons_zero, Act.put, List.setIfInBounds_toArray, List.set_cons_zero, List.set_cons_succ]
        refine wpAnyH_take (i := 1) (oi := _) (v := ?_) rfl (by kernel_rfl) (by kernel_rfl) (by kernel_rfl) (fun _ _ _ h => h) (Or.inl ⟨by rfl, ?_⟩) (by assumption) ?_
        rotate_left
        · (intro w hSw; (try dsimp only at hSw); go_simp; try with_reducible rfl)
        try simp only [List.getElem_toArray, List.getElem_cons_succ, List.getElem_cons_zero, Act.put, List.setIfInBounds_toArray, List.set_cons_zero, List.set_cons_succ]
        refine wpAnyH_take (i := 2) (oi := _) (v := ?_) rfl (by kernel_rfl) (by kernel_rfl) (by kernel_rfl) (fun _ _ _ h => h) (Or.inl ⟨by rfl, ?_⟩) (by assumption) ?_
        rotate_left
        · (intro w hSw; (try dsimp only at hSw); go_simp; try with_reducible rfl)
        try simp only [List.getElem_toArray, List.getElem_cons_succ, List.getElem_cons_zero, Act.put, List.setIfInBounds_toArray, List.set_cons_zero, List.set_cons_succ]
        refine wpAnyH_take (i := 3) (oi := _) (v := clV sm26 qc) rfl (by kernel_rfl) (by kernel_rfl) (by kernel_rfl) (fun _ _ _ h => h) (yields_load_cl (by rfl) _ rfl gc rfl sm26 qc (fun _ h => h.2)) (by assumption) ?_
        try simp only [List.getElem_toArray, List.getElem_cons_succ, List.getElem_cons_zero, Act.put, List.setIfInBounds_toArray, List.set_cons_zero, List.set_cons_succ]
        refine wpAnyH_ready (rs := [4]) (by kernel_rfl) (by simp) ?_
        refine AllReadyH.cons (o := _) rfl (fun K hK => ?_) AllReadyH.nil
        go_simp
        go_at_call 35; refine (some26_any _).mono ?_; rintro e wa ⟨⟨pa, rfl, haa, hca⟩, hba⟩
        have Ba := Lib.hid (bthen Bd.out hba)
        have Ha : Hid (ExBox wa gx exC26 ∧ ClBox wa gc sm26 qc) := Lib.hid ⟨Hd.out.1.below hba, Hd.out.2.below hba⟩
        have Aa := Lib.hid (Ad.out.below hba)
        have AA := Lib.hid haa
        (try clear hHeld)
        refine hK.out _ _ ?_ (fun hHeld => ?_)
        · exact Ha.out
        clear hK K
        try simp only [List.getElem_toArray, List.getElem_cons_succ, List.getElem_cons_zero, Act.put, List.setIfInBounds_toArray, List.set_cons_zero, List.set_cons_succ]
        refine wpAnyH_ready (rs := [5]) (by kernel_rfl) (by simp) ?_
        refine AllReadyH.cons (o := _) rfl (fun K hK => ?_) AllReadyH.nil
        go_simp
        go_at_call 19; refine (requal_any sm26 sm26 qc pa _ Aa.out AA.out ⟨by decide, by decide, by decide⟩ ⟨by decide, by decide, by decide⟩).mono ?_; rintro e wb ⟨rfl, hbb⟩; rw [(eqB_iff sm26 sm26).2 rfl]
        have Bb := Lib.hid (bthen Ba.out hbb)
        have Hb : Hid (ExBox wb gx exC26 ∧ ClBox wb gc sm26 qc) := Lib.hid ⟨Ha.out.1.below hbb, Ha.out.2.below hbb⟩
        (try clear hHeld)
        refine hK.out _ _ ?_ (fun hHeld => ?_)
        · exact Hb.out
        clear hK K
        try simp only [List.getElem_toArray, List.getElem_cons_succ, List.getElem_cons_zero, Act.put, List.setIfInBounds_toArray, List.set_cons_zero, List.set_cons_succ]
        refine wpAnyH_take (i := 6) (oi := _) (v := ?_) rfl (by kernel_rfl) (by kernel_rfl) (by kernel_rfl) (fun _ _ _ h => h) (Or.inl ⟨by rfl, ?_⟩) (by assumption) ?_
        rotate_left
        · (intro w hSw; (try dsimp only at hSw); go_simp; try with_reducible rfl)
        try simp only [List.getElem_toArray, List.getElem_cons_succ, List.getElem_cons_zero, Act.put, List.setIfInBounds_toArray, List.set_cons_zero, List.set_cons_succ]
        refine wpAnyH_take (i := 7) (oi := _) (v := ?_) rfl (by kernel_rfl) (by kernel_rfl) (by kernel_rfl) (fun _ _ _ h => h) (Or.inl ⟨by rfl, ?_⟩) (by assumption) ?_
        rotate_left
        · (intro w hSw; (try dsimp only at hSw); go_simp; try with_reducible rfl)
        try simp only [List.getElem_toArray, List.getElem_cons_succ, List.getElem_cons_zero, Act.put, List.setIfInBounds_toArray, List.set_cons_zero, List.set_cons_succ]
        refine wpAnyH_take (i := 8) (oi := _) (v := ?_) rfl (by kernel_rfl) (by kernel_rfl) (by kernel_rfl) (fun _ _ _ h => h) (Or.inl ⟨by rfl, ?_⟩) (by assumption) ?_
        rotate_left
        · (intro w hSw; (try dsimp only at hSw); go_simp; try with_reducible rfl)
        try simp only [List.getElem_toArray, List.getElem_cons_succ, List.getElem_cons_zero, Act.put, List.setIfInBounds_toArray, List.set_cons_zero, List.set_cons_succ]
        refine wpAnyH_take (i := 9) (oi := _) (v := ?_) rfl (by kernel_rfl) (by kernel_rfl) (by kernel_rfl) (fun _ _ _ h => h) (Or.inl ⟨by rfl, ?_⟩) (by assumption) ?_
        rotate_left
        · (intro w hSw; (try dsimp only at hSw); go_simp; try with_reducible rfl)
        try simp only [List.getElem_toArray, List.getElem_cons_succ, List.getElem_cons_zero, Act.put, List.setIfInBounds_toArray, List.set_cons_zero, List.set_cons_succ]
        refine wpAnyH_take (i := 10) (oi := _) (v := ?_) rfl (by kernel_rfl) (by kernel_rfl) (by kernel_rfl) (fun _ _ _ h => h) (Or.inl ⟨by rfl, ?_⟩) (by assumption) ?_
        rotate_left
        · (intro w hSw; (try dsimp only at hSw); go_simp; try with_reducible rfl)
        try simp only [List.getElem_toArray, List.getElem_cons_succ, List.getElem_cons_zero, Act.put, List.setIfInBounds_toArray, List.set_cons_zero, List.set_cons_succ]
        refine wpAnyH_take (i := 11) (oi := _) (v := ?_) rfl (by kernel_rfl) (by kernel_rfl) (by kernel_rfl) (fun _ _ _ h => h) (Or.inl ⟨by rfl, ?_⟩) (by assumption) ?_
        rotate_left
        · (intro w hSw; (try dsimp only at hSw); go_simp; try with_reducible rfl)
        try simp only [List.getElem_toArray, List.getElem_cons_succ, List.getElem_cons_zero, Act.put, List.setIfInBounds_toArray, List.set_cons_zero, List.set_cons_succ]
        refine wpAnyH_take (i := 12) (oi := _) (v := ?_) rfl (by kernel_rfl) (by kernel_rfl) (by kernel_rfl) (fun _ _ _ h => h) (Or.inl ⟨by rfl, ?_⟩) (by assumption) ?_
        rotate_left
        · (intro w hSw; (try dsimp only at hSw); go_simp; try with_reducible rfl)
        try simp only [List.getElem_toArray, List.getElem_cons_succ, List.getElem_cons_zero, Act.put, List.setIfInBounds_toArray, List.set_cons_zero, List.set_cons_succ]
        refine wpAnyH_take (i := 13) (oi := _) (v := ?_) rfl (by kernel_rfl) (by kernel_rfl) (by kernel_rfl) (fun _ _ _ h => h) (Or.inl ⟨by rfl, ?_⟩) (by assumption) ?_
        rotate_left
        · (intro w hSw; (try dsimp only at hSw); go_simp; try with_reducible rfl)
        try simp only [List.getElem_toArray, List.getElem_cons_succ, List.getElem_cons_zero, Act.put, List.setIfInBounds_toArray, List.set_cons_zero, List.set_cons_succ]
        refine wpAnyH_take (i := 14) (oi := _) (v := ?_) rfl (by kernel_rfl) (by kernel_rfl) (by kernel_rfl) (fun _ _ _ h => h) (Or.inl ⟨by rfl, ?_⟩) (by assumption) ?_
        rotate_left
        · (intro w hSw; (try dsimp only at hSw); go_simp; try with_reducible rfl)
        try simp only [List.getElem_toArray, List.getElem_cons_succ, List.getElem_cons_zero, Act.put, List.setIfInBounds_toArray, List.set_cons_zero, List.set_cons_succ]
        refine wpAnyH_take (i := 15) (oi := _) (v := ?_) rfl (by kernel_rfl) (by kernel_rfl) (by kernel_rfl) (fun _ _ _ h => h) (Or.inl ⟨by rfl, ?_⟩) (by assumption) ?_
        rotate_left
        · (intro w hSw; (try dsimp only at hSw); go_simp; try with_reducible rfl)
        try simp only [List.getElem_toArray, List.getElem_cons_succ, List.getElem_cons_zero, Act.put, List.setIfInBounds_toArray, List.set_cons_zero, List.set_cons_succ]
        refine wpAnyH_take (i := 16) (oi := _) (v := ?_) rfl (by kernel_rfl) (by kernel_rfl) (by kernel_rfl) (fun _ _ _ h => h) (Or.inl ⟨by rfl, ?_⟩) (by assumption) ?_
        rotate_left
        · (intro w hSw; (try dsimp only at hSw); go_simp; try with_reducible rfl)
        try simp only [List.getElem_toArray, List.getElem_cons_succ, List.getElem_cons_zero, Act.put, List.setIfInBounds_toArray, List.set_cons_zero, List.set_cons_succ]
        refine wpAnyH_take (i := 17) (oi := _) (v := ?_) rfl (by kernel_rfl) (by kernel_rfl) (by kernel_rfl) (fun _ _ _ h => h) (Or.inl ⟨by rfl, ?_⟩) (by assumption) ?_
        rotate_left
        · (intro w hSw; (try dsimp only at hSw); go_simp; try with_reducible rfl)
        try simp only [List.getElem_toArray, List.getElem_cons_succ, List.getElem_cons_zero, Act.put, List.setIfInBounds_toArray, List.set_cons_zero, List.set_cons_succ]
        refine wpAnyH_take (i := 18) (oi := _) (v := ?_) rfl (by kernel_rfl) (by kernel_rfl) (by kernel_rfl) (fun _ _ _ h => h) (Or.inl ⟨by rfl, ?_⟩) (by assumption) ?_
        rotate_left
        · (intro w hSw; (try dsimp only at hSw); go_simp; try with_reducible rfl)
        try simp only [List.getElem_toArray, List.getElem_cons_succ, List.getElem_cons_zero, Act.put, List.setIfInBounds_toArray, List.set_cons_zero, List.set_cons_succ]
        refine wpAnyH_take (i := 19) (oi := _) (v := ?_) rfl (by kernel_rfl) (by kernel_rfl) (by kernel_rfl) (fun _ _ _ h => h) (Or.inl ⟨by rfl, ?_⟩) (by assumption) ?_
        rotate_left
        · (intro w hSw; (try dsimp only at hSw); go_simp; try with_reducible rfl)
        try simp only [List.getElem_toArray, List.getElem_cons_succ, List.getElem_cons_zero, Act.put, List.setIfInBounds_toArray, List.set_cons_zero, List.set_cons_succ]
        refine wpAnyH_take (i := 21) (oi := _) (v := ?_) rfl (by kernel_rfl) (by kernel_rfl) (by kernel_rfl) (fun _ _ _ h => h) (Or.inl ⟨by rfl, ?_⟩) (by assumption) ?_
        rotate_left
        · (intro w hSw; (try dsimp only at hSw); go_simp; try with_reducible rfl)
        try simp only [List.getElem_toArray, List.getElem_cons_succ, List.getElem_cons_zero, Act.put, List.setIfInBounds_toArray, List.set_cons_zero, List.set_cons_succ]
        refine wpAnyH_take (i := 22) (oi := _) (v := exV exC26) rfl (by kernel_rfl) (by kernel_rfl) (by kernel_rfl) (fun _ _ _ h => h) (yields_load_ex (by rfl) _ rfl gx rfl exC26 (fun _ h => h.1)) (by assumption) ?_
        try simp only [List.getElem_toArray, List.getElem_cons_succ, List.getElem_cons_zero, Act.put, List.setIfInBounds_toArray, List.set_cons_zero, List.set_cons_succ]
        refine wpAnyH_ready (rs := [20]) (by kernel_rfl) (by simp) ?_
        refine AllReadyH.cons (o := _) rfl (fun K hK => ?_) AllReadyH.nil
        go_simp
        go_at_call 34; refine (ring_any _).mono ?_; rintro e wd ⟨⟨gr, rfl, hrd, _⟩, hbd⟩
        have Be := Lib.hid (bthen Bb.out hbd)
        have He : Hid (ExBox wd gx exC26 ∧ ClBox wd gc sm26 qc) := Lib.hid ⟨Hb.out.1.below hbd, Hb.out.2.below hbd⟩
        have Re := Lib.hid hrd
        (try clear hHeld)
        refine hK.out _ _ ?_ (fun hHeld => ?_)
        · exact He.out
        clear hK K
        try simp only [List.getElem_toArray, List.getElem_cons_succ, List.getElem_cons_zero, Act.put, List.setIfInBounds_toArray, List.set_cons_zero, List.set_cons_succ]
        refine wpAnyH_ready (rs := [23]) (by kernel_rfl) (by simp) ?_
        refine AllReadyH.cons (o := _) rfl (fun K hK => ?_) AllReadyH.nil
        go_simp
        go_at_call 20; refine (left26_any [ringK] (some ⟨gr, 0, none⟩) 1 T exC26 _ (HDw.out.below Be.out) (HPw.out.below Be.out) (HKw.out.below Be.out) (HEw.out.below Be.out) Re.out (by decide) (by have := HTZ.out; omega) ring_sec).mono ?_; rintro e wf ⟨rfl, hbf⟩; rw [HLC.out]
        have Bf := Lib.hid (bthen Be.out hbf)
        have Hf : Hid (ExBox wf gx exC26 ∧ ClBox wf gc sm26 qc) := Lib.hid ⟨He.out.1.below hbf, He.out.2.below hbf⟩
        (try clear hHeld)
        refine hK.out _ _ ?_ (fun hHeld => ?_)
        · exact Hf.out
        clear hK K
        try simp only [List.getElem_toArray, List.getElem_cons_succ, List.getElem_cons_zero, Act.put, List.setIfInBounds_toArray, List.set_cons_zero, List.set_cons_succ]
        refine wpAnyH_take (i := 24) (oi := _) (v := ?_) rfl (by kernel_rfl) (by kernel_rfl) (by kernel_rfl) (fun _ _ _ h => h) (Or.inl ⟨by rfl, ?_⟩) (by assumption) ?_
        rotate_left
        · (intro w hSw; (try dsimp only at hSw); go_simp; try with_reducible rfl)
        try simp only [List.getElem_toArray, List.getElem_cons_succ, List.getElem_cons_zero, Act.put, List.setIfInBounds_toArray, List.set_cons_zero, List.set_cons_succ]
        refine wpAnyH_take (i := 25) (oi := _) (v := ?_) rfl (by kernel_rfl) (by kernel_rfl) (by kernel_rfl) (fun _ _ _ h => h) (Or.inl ⟨by rfl, ?_⟩) (by assumption) ?_
        rotate_left
        · (intro w hSw; (try dsimp only at hSw); go_simp; try with_reducible rfl)
        try simp only [List.getElem_toArray, List.getElem_cons_succ, List.getElem_cons_zero, Act.put, List.setIfInBounds_toArray, List.set_cons_zero, List.set_cons_succ]
        refine wpAnyH_take (i := 26) (oi := _) (v := ?_) rfl (by kernel_rfl) (by kernel_rfl) (by kernel_rfl) (fun _ _ _ h => h) (Or.inl ⟨by rfl, ?_⟩) (by assumption) ?_
        rotate_left
        · (intro w hSw; (try dsimp only at hSw); go_simp; try with_reducible rfl)
        try simp only [List.getElem_toArray, List.getElem_cons_succ, List.getElem_cons_zero, Act.put, List.setIfInBounds_toArray, List.set_cons_zero, List.set_cons_succ]
        refine wpAnyH_done (by kernel_rfl) ?_ _
        go_wp2_with fail
        go_ret
        exact ⟨rfl, Bf.out⟩
end Go.Proofs.YtiiioefjdebggaaGreatDoor

/- An argument of type []string, opened. -/
namespace Go.Proofs.YtiiioefjdebggaaGreatDoor
open Go.ChangeShapes Go.WideShapes Go.ChangeAt Go.RowKit

theorem open_strl {H : Type} {enc : TypeId × Value → H} {P : Program} {W : World} {b0 : Nat} {t e : TypeId} {v : Value} {d : DataW H} {p : List MemPlace}
    (ht : P.underlying t = some (.slice e)) (he : P.underlying e = some .string) (hce : P.cellsOf e = 1)
    (hval : Value.okWide P W .any b0 t v) (hd : DataW.Trod enc P W 0 (fun _ => true) true t v d p) :
    ∃ A l c, v = .slice A (l : List ByteArray).length c ∧ Strs W A l ∧ l.length ≤ c ∧ l.length ≤ 9223372036854775807 ∧ ∀ s ∈ l, s.size ≤ 9223372036854775807 := by
  obtain ⟨a0, len, cap, rfl⟩ := okWide_slice ht hval
  obtain ⟨fuel, hf⟩ := hd
  rcases open_strings ht he hce hf with ⟨hcs, hx⟩ | ⟨a, len', cap', ss, hcs, h1, hl, hm, hz, hx, hcell, hws⟩
  · have e0 : Value.slice a0 len cap = .slice none 0 0 := by simpa [Value.cells] using hcs
    exact ⟨none, [], 0, e0, Strs.nil_ _ _, Nat.le_refl _, by simp, fun s h => by simp at h⟩
  · have e0 : Value.slice a0 len cap = .slice (some a) len' cap' := by simpa [Value.cells] using hcs
    simp only [if_true] at hz
    have hlen : (ss.take len').length = len' := by rw [List.length_take]; omega
    unfold maxLen at hm hws
    refine ⟨some a, ss.take len', cap', by rw [hlen]; exact e0, ?_, by rw [hlen]; exact hl, by rw [hlen]; omega, fun s hs => hws s (List.mem_of_mem_take hs)⟩
    intro i hi
    have hi' : i < ss.length := by rw [List.length_take] at hi; omega
    obtain ⟨b, off, spot⟩ := a
    have hspot : spot = none := by simpa [Addr.add] using World.cell?_spot (hcell 0 (by omega))
    subst hspot
    refine ⟨b, off, rfl, ?_⟩
    have := hcell i hi'
    rw [Go.WideShapes.add_plain] at this
    rw [this, List.getD_eq_getElem?_getD, List.getElem?_eq_getElem hi', Option.getD_some, List.getElem_take]
end Go.Proofs.YtiiioefjdebggaaGreatDoor

/- Arguments that are slices, opened at every index; slices of pairs of strings; slices of slices of strings. -/
namespace Go.Proofs.YtiiioefjdebggaaGreatDoor
open Go.ChangeShapes Go.WideShapes Go.ChangeAt Go.RowKit Go.Deep

section
variable {H : Type} {enc : TypeId × Value → H} {P : Program} {W : World}
/-- A slice, its elements' cells and how they read. -/
theorem open_at {t e : TypeId} {fuel : Nat} {v : Value} {x : DataW H × List MemPlace} (ht : P.underlying t = some (.slice e)) (hc : 0 < P.cellsOf e)
    (hf : DataW.trod enc P W 0 (fun _ => true) true fuel t [v] = some x) :
    ∃ A len cap, v = .slice A len cap ∧ len ≤ cap ∧ cap ≤ 9223372036854775807 ∧ ∀ i, i < len → ∃ b o n y cs, A = some ⟨b, o, none⟩ ∧ (∀ j, j < P.cellsOf e → W.cell? ⟨b, o + i * P.cellsOf e + j, none⟩ = cs[j]?) ∧ cs.length = P.cellsOf e ∧ DataW.trod enc P W 0 (fun _ => true) true n e cs = some y := by
  rcases open_slice ht hf with ⟨hcs, hx⟩ | ⟨a, len, cap, m, n, D, Pl, hcs, h1, hl, hm, hmm, hx, hi⟩
  · have e0 : v = .slice none 0 0 := by simpa using hcs
    exact ⟨none, 0, 0, e0, Nat.le_refl _, by omega, fun i h => absurd h (by omega)⟩
  · have e0 : v = .slice (some a) len cap := by simpa using hcs
    simp only [if_true] at hmm
    unfold maxLen at hm
    refine ⟨some a, len, cap, e0, hl, hm, fun i hil => ?_⟩
    obtain ⟨cs, h2, h3⟩ := hi i (by omega)
    obtain ⟨_, hcl, hat⟩ := World.cells?_some h2
    obtain ⟨b, off, spot⟩ := a
    have hspot : spot = none := by
      obtain ⟨cs0, h20, _⟩ := hi 0 (by omega)
      obtain ⟨_, hcl0, hat0⟩ := World.cells?_some h20
      have h := hat0 0 hc
      rw [List.getElem?_eq_getElem (show 0 < cs0.length by omega)] at h
      have e1 : ((⟨b, off, spot⟩ : Addr).add (0 * P.cellsOf e)).add 0 = ⟨b, off, spot⟩ := by simp [Addr.add]
      rw [e1] at h
      exact World.cell?_spot h
    subst hspot
    refine ⟨b, off, n, _, cs, rfl, fun j hj => ?_, hcl, h3⟩
    have h := hat j hj
    rw [add_add, Go.WideShapes.add_plain] at h
    rw [← h, Nat.add_assoc]
theorem open_at' {t e : TypeId} {b0 : Nat} {v : Value} {d : DataW H} {p : List MemPlace} (ht : P.underlying t = some (.slice e)) (hc : 0 < P.cellsOf e)
    (hval : Value.okWide P W .any b0 t v) (hd : DataW.Trod enc P W 0 (fun _ => true) true t v d p) :
    ∃ A len cap, v = .slice A len cap ∧ len ≤ cap ∧ cap ≤ 9223372036854775807 ∧ ∀ i, i < len → ∃ b o n y cs, A = some ⟨b, o, none⟩ ∧ (∀ j, j < P.cellsOf e → W.cell? ⟨b, o + i * P.cellsOf e + j, none⟩ = cs[j]?) ∧ cs.length = P.cellsOf e ∧ DataW.trod enc P W 0 (fun _ => true) true n e cs = some y := by
  obtain ⟨a0, len, cap, rfl⟩ := okWide_slice ht hval
  obtain ⟨fuel, hf⟩ := hd
  exact open_at ht hc (by simpa [Value.cells] using hf)
/-- A field of one cell that is a string. -/
theorem field_str {w : World} {n : Nat} {fs : Array Field} {t : TypeId} {cs : List Value} {y : DataW H × List MemPlace} (ht : P.underlying t = some (.struct fs)) (h : DataW.trod enc P w 0 (fun _ => true) true n t cs = some y) (j : Nat) (f : Field) (hj : fs[j]? = some f)
    (hs : P.underlying f.type = some .string) (hc : P.cellsOf f.type = 1) : ∃ s : ByteArray, cs[f.offset]? = some (.string s) ∧ s.size ≤ 9223372036854775807 := by
  obtain ⟨xs, n', _, _, _, hlen, hg⟩ := DataW.trod_struct ht h
  have h1 := hg j f hj
  have hjl : j < fs.size := (Array.getElem?_eq_some_iff.1 hj).1
  rw [List.getElem?_eq_getElem (by omega), hc] at h1
  obtain ⟨s, h2, _, h4⟩ := DataW.trod_string hs h1
  refine ⟨s, ?_, by unfold maxLen at h4; exact h4⟩
  have : (List.take 1 (List.drop f.offset cs))[0]? = some (.string s) := by rw [h2]; rfl
  simpa [List.getElem?_take, List.getElem?_drop] using this
end
end Go.Proofs.YtiiioefjdebggaaGreatDoor

/- A field of one cell that is an int, opened. -/
namespace Go.Proofs.YtiiioefjdebggaaGreatDoor
open Go.ChangeShapes Go.WideShapes Go.ChangeAt Go.RowKit Go.Deep

/-- A field of one cell that is an int. -/
theorem field_int {H : Type} {enc : TypeId × Value → H} {P : Program} {w : World} {n : Nat} {fs : Array Field} {t : TypeId} {k : IntKind} {cs : List Value} {y : DataW H × List MemPlace} (ht : P.underlying t = some (.struct fs)) (h : DataW.trod enc P w 0 (fun _ => true) true n t cs = some y) (j : Nat) (f : Field) (hj : fs[j]? = some f)
    (hs : P.underlying f.type = some (.int k)) (hc : P.cellsOf f.type = 1) : ∃ z : Int, cs[f.offset]? = some (.int k z) ∧ (Lit.int k z).wf = true := by
  obtain ⟨xs, n', _, _, _, hlen, hg⟩ := DataW.trod_struct ht h
  have h1 := hg j f hj
  have hjl : j < fs.size := (Array.getElem?_eq_some_iff.1 hj).1
  rw [List.getElem?_eq_getElem (by omega), hc] at h1
  obtain ⟨z, h2, _, h4⟩ := DataW.trod_int hs h1
  refine ⟨z, ?_, h4⟩
  have : (List.take 1 (List.drop f.offset cs))[0]? = some (.int k z) := by rw [h2]; rfl
  simpa [List.getElem?_take, List.getElem?_drop] using this
end Go.Proofs.YtiiioefjdebggaaGreatDoor

/- Arguments of type []api.Key, opened. -/
namespace Go.Proofs.YtiiioefjdebggaaGreatDoor
open Go.ChangeShapes Go.WideShapes Go.ChangeAt Go.RowKit Go.Deep

/-- A field that is a struct of two ints. -/
theorem field_two {H : Type} {enc : TypeId × Value → H} {P : Program} {w : World} {n : Nat} {fs : Array Field} {t : TypeId} {cs : List Value} {y : DataW H × List MemPlace} (ht : P.underlying t = some (.struct fs)) (h : DataW.trod enc P w 0 (fun _ => true) true n t cs = some y) (j : Nat) (f g0 g1 : Field) (hj : fs[j]? = some f)
    (hw : P.underlying f.type = some (.struct #[g0, g1])) (ho : g0.offset = 0 ∧ g1.offset = 1) (h0 : P.underlying g0.type = some (.int .i64)) (h1 : P.underlying g1.type = some (.int .i64)) (hc0 : P.cellsOf g0.type = 1) (hc1 : P.cellsOf g1.type = 1) (hc : P.cellsOf f.type = 2) :
    ∃ a b : Int, cs[f.offset]? = some (.int .i64 a) ∧ cs[f.offset + 1]? = some (.int .i64 b) ∧ (-9223372036854775808 ≤ a ∧ a ≤ 9223372036854775807) ∧ (-9223372036854775808 ≤ b ∧ b ≤ 9223372036854775807) := by
  obtain ⟨xs, n', _, _, _, hlen, hg⟩ := DataW.trod_struct ht h
  have h2 := hg j f hj
  have hjl : j < fs.size := (Array.getElem?_eq_some_iff.1 hj).1
  rw [List.getElem?_eq_getElem (by omega), hc] at h2
  obtain ⟨a, ea, wa⟩ := field_int (k := .i64) hw h2 0 g0 rfl h0 hc0
  obtain ⟨b, eb, wb⟩ := field_int (k := .i64) hw h2 1 g1 rfl h1 hc1
  rw [ho.1] at ea
  rw [ho.2] at eb
  refine ⟨a, b, ?_, ?_, bounds_i64 wa, bounds_i64 wb⟩
  · simpa [List.getElem?_take, List.getElem?_drop] using ea
  · simpa [List.getElem?_take, List.getElem?_drop] using eb
set_option maxRecDepth 100000 in
theorem ky_cells {H : Type} {enc : TypeId × Value → H} {W : World} {n : Nat} {cs : List Value} {y : DataW H × List MemPlace} (hl : cs.length = 6)
    (hy : DataW.trod enc Tryz.prog W 0 (fun _ => true) true n 45 cs = some y) : ∃ x : Ky, cs = kyC x ∧ KyIn x := by
  have he := Tryz.underlying45
  have hw := Tryz.underlying43
  obtain ⟨s0, e0, w0⟩ := field_str he hy 0 _ rfl (by kernel_rfl) (by kernel_rfl)
  obtain ⟨s1, e1, w1⟩ := field_str he hy 1 _ rfl (by kernel_rfl) (by kernel_rfl)
  obtain ⟨a, b, e2, e3, w2, w3⟩ := field_two he hy 2 _ _ _ rfl hw ⟨rfl, rfl⟩ (by kernel_rfl) (by kernel_rfl) (by kernel_rfl) (by kernel_rfl) (by kernel_rfl)
  obtain ⟨c, d, e4, e5, w4, w5⟩ := field_two he hy 3 _ _ _ rfl hw ⟨rfl, rfl⟩ (by kernel_rfl) (by kernel_rfl) (by kernel_rfl) (by kernel_rfl) (by kernel_rfl)
  replace e0 : cs[0]? = some (.string s0) := e0
  replace e1 : cs[1]? = some (.string s1) := e1
  replace e2 : cs[2]? = some (.int .i64 a) := e2
  replace e3 : cs[3]? = some (.int .i64 b) := e3
  replace e4 : cs[4]? = some (.int .i64 c) := e4
  replace e5 : cs[5]? = some (.int .i64 d) := e5
  refine ⟨⟨s0, s1, a, b, c, d⟩, ?_, ⟨w0, w1, w2, w3, w4, w5⟩⟩
  match cs, hl with
  | [v0, v1, v2, v3, v4, v5], _ =>
    simp only [List.getElem?_cons_zero, List.getElem?_cons_succ, Option.some.injEq] at e0 e1 e2 e3 e4 e5
    subst e0 e1 e2 e3 e4 e5
    rfl
theorem choose_ky {n : Nat} {P : Nat → Ky → Prop} (h : ∀ i, i < n → ∃ x, P i x) : ∃ f : Nat → Ky, ∀ i, i < n → P i (f i) := by
  refine ⟨fun i => if hi : i < n then (h i hi).choose else ky0, fun i hi => ?_⟩
  have e : (fun i => if hi : i < n then (h i hi).choose else ky0) i = (h i hi).choose := dif_pos hi
  rw [e]
  exact (h i hi).choose_spec
set_option maxRecDepth 100000 in
theorem open_kys {H : Type} {enc : TypeId × Value → H} {W : World} {b0 : Nat} {v : Value} {d : DataW H} {p : List MemPlace}
    (hval : Value.okWide Tryz.prog W .any b0 22 v) (hd : DataW.Trod enc Tryz.prog W 0 (fun _ => true) true 22 v d p) :
    ∃ A l c, v = .slice A (l : List Ky).length c ∧ KysAt W A l ∧ l.length ≤ c ∧ l.length ≤ 9223372036854775807 ∧ ∀ x ∈ l, KyIn x := by
  have hce : Tryz.prog.cellsOf 45 = 6 := by kernel_rfl
  obtain ⟨A, len, cap, rfl, hl, hm, hi⟩ := open_at' Tryz.underlying22 (by omega) hval hd
  have each : ∀ i, i < len → ∃ x : Ky, (∃ b o, A = some ⟨b, o, none⟩ ∧ ∀ j, j < 6 → W.cell? ⟨b, o + i * 6 + j, none⟩ = (kyC x)[j]?) ∧ KyIn x := by
    intro i hil
    obtain ⟨b, o, n, y, cs, hA, hcell, hcl, hy⟩ := hi i hil
    rw [hce] at hcell hcl
    obtain ⟨x, rfl, hin⟩ := ky_cells hcl hy
    exact ⟨x, ⟨b, o, hA, hcell⟩, hin⟩
  obtain ⟨f, hf⟩ := choose_ky each
  have hlen : ((List.range len).map f).length = len := by simp
  refine ⟨A, (List.range len).map f, cap, by rw [hlen], ?_, by rw [hlen]; exact hl, by rw [hlen]; omega, fun x hx => ?_⟩
  · intro i hi'
    obtain ⟨⟨b, o, hA, h⟩, _⟩ := hf i (by simpa using hi')
    refine ⟨b, o, hA, ?_⟩
    simp only [List.getElem_map, List.getElem_range]
    exact ⟨h 0 (by omega), h 1 (by omega), h 2 (by omega), h 3 (by omega), h 4 (by omega), h 5 (by omega)⟩
  · simp only [List.mem_map, List.mem_range] at hx
    obtain ⟨i, hi', rfl⟩ := hx
    exact (hf i hi').2
end Go.Proofs.YtiiioefjdebggaaGreatDoor

