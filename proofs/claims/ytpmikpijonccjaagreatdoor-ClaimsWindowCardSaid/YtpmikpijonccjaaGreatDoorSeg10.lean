/- Joined: ClmAwake, ClmLaw, Same03. -/
import Derived.Test.YtpmikpijonccjaaGreatDoorSeg9
import Derived.Test.YtpmikpijonccjaaGreatDoorSeg8
import Derived.Test.YtpmikpijonccjaaGreatDoorSeg6
import Derived.Test.YtpmikpijonccjaaGreatDoorSeg1
import Derived.BigQuiet
import Derived.Deep.QuietTactic
/- The laws' awake. -/
namespace Go.Proofs.YtpmikpijonccjaaGreatDoor
open Go.RowKit

set_option linter.unusedSimpArgs false in
set_option maxHeartbeats 16000000 in
set_option maxRecDepth 100000 in
theorem awake25_any (w : World) (hk : KeysOk w) (hp : PowOk w) (he : ErrsOk w) :
    Calls Tryz.prog 11 #[] w fun e w' => e = .returned (.bool true) ∧ Below w.heap.size w w' := by
  have HK := Lib.hid hk
  have HP := Lib.hid hp
  have HE := Lib.hid he
  clear hk hp he
  go_enter Tryz.func11, Tryz.ntmps11
  go_wp2_with fail
  refine (sample25_any _).mono ?_
  rintro e w1 ⟨⟨p, rfl, hat1, hcp1, hlt1⟩, hb1⟩
  obtain ⟨c, HC⟩ : ∃ c, Hid (smp = c) := ⟨_, Lib.hid rfl⟩
  rw [HC.out] at hat1 hcp1
  rw [HC.out]
  have Z1 : Hid (ClBox (w1.alloc (clO cl0 p30)) w1.heap.size cl0 p30) := Lib.hid (ClBox.new w1 cl0 p30)
  have X1 : Hid (ClBox ((w1.alloc (clO cl0 p30)).setRow w1.heap.size (clA c p)) w1.heap.size c p) := Lib.hid Z1.out.set
  have HSR : Hid (Below w1.heap.size w1 ((w1.alloc (clO cl0 p30)).setRow w1.heap.size (clA c p))) := Lib.hid (below_setRow ((Below.refl _ _).alloc (Nat.le_refl _) _) (Nat.le_refl _) _)
  have B1 := Lib.hid (bthen hb1 HSR.out)
  have AT := Lib.hid (hat1.below HSR.out)
  have CP := Lib.hid hcp1
  have hz1 : w.heap.size ≤ w1.heap.size := hb1.size
  have HSZ : Hid (((w1.alloc (clO cl0 p30)).setRow w1.heap.size (clA c p)).heap.size = w1.heap.size + 1) := Lib.hid (by simp)
  clear hat1 hcp1 hlt1 hb1
  obtain ⟨g1, HG1⟩ : ∃ g, Hid (w1.heap.size = g) := ⟨_, Lib.hid rfl⟩
  obtain ⟨W1, HW1⟩ : ∃ W, Hid (((w1.alloc (clO cl0 p30)).setRow w1.heap.size (clA c p)) = W) := ⟨_, Lib.hid rfl⟩
  rw [HW1.out] at X1 HSR B1 AT HSZ
  rw [HG1.out] at X1 HSZ hz1
  go_upto_region 2 with (first
    | (refine alloc_cl rfl _ rfl rfl ?_)
    | (refine store_cl rfl _ rfl _ _ rfl w1.heap.size rfl c p rfl cl0 p30 Z1 ?_; rw [HW1.out]; rw [HG1.out])
    | fail)
  clear HSR Z1
  simp only [Act.put, List.setIfInBounds_toArray, List.set_cons_succ, List.set_cons_zero]
  go_cut [2, 3] (fun v2 v3 wx => ∃ g2 g3, v2 = .pointer (some ⟨g2, 0, none⟩) ∧ v3 = .pointer (some ⟨g3, 0, none⟩) ∧ g1 < g2 ∧ g1 < g3 ∧ g2 ≠ g3 ∧ Hid (Below W1.heap.size W1 wx) ∧ Hid (ClBox wx g2 c p) ∧ Hid (ClBox wx g3 c p) ∧ g2 < wx.heap.size ∧ g3 < wx.heap.size)
  case first =>
    have hgx : W1.heap.size = g1 + 1 := HSZ.out
    obtain ⟨D1, D2, D3⟩ := dup_one W1.drew
    have hszA : (W1.drew.alloc (clO cl0 p30)).heap.size = W1.heap.size + 1 := by simp
    have hszB : W1.drew.heap.size = W1.heap.size := rfl
    refine wp_region_held_drew (S := fun w' => ClBox w' g1 c p) (by kernel_rfl) ?_ (fun hHeld => ?_)
    · exact X1.out
    refine wpAnyH_take (i := 0) (oi := _) (v := clV c p) rfl (by kernel_rfl) (by kernel_rfl) (by kernel_rfl) (fun _ _ _ h => h) (yields_load_cl (by rfl) _ rfl g1 rfl c p (fun _ h => h)) hHeld ?_
    simp only [List.getElem_toArray, List.getElem_cons_succ, List.getElem_cons_zero, Act.put, List.setIfInBounds_toArray, List.set_cons_zero, List.set_cons_succ]
    refine wpAnyH_take (i := 1) (oi := _) (v := clV c p) rfl (by kernel_rfl) (by kernel_rfl) (by kernel_rfl) (fun _ _ _ h => h) (yields_load_cl (by rfl) _ rfl g1 rfl c p (fun _ h => h)) hHeld ?_
    simp only [List.getElem_toArray, List.getElem_cons_succ, List.getElem_cons_zero, Act.put, List.setIfInBounds_toArray, List.set_cons_zero, List.set_cons_succ]
    refine wpAnyH_ready (rs := [2, 3]) (by kernel_rfl) (by simp) ?_
    refine AllReadyH.cons (o := _) rfl (fun K hK => ?_) (AllReadyH.cons (o := _) rfl (fun K hK => ?_) AllReadyH.nil)
    · refine step_alloc_cl rfl rfl ?_
      simp only [List.getElem_toArray, List.getElem_cons_succ, List.getElem_cons_zero, Act.put, List.setIfInBounds_toArray, List.set_cons_zero, List.set_cons_succ]
      refine hK.out _ _ (hHeld.below ((Below.refl _ _).alloc (Nat.le_refl _) _)) (fun h2 => ?_)
      refine wpAnyH_ready (rs := [3]) (by kernel_rfl) (by simp) ?_
      refine AllReadyH.cons (o := _) rfl (fun K2 hK2 => ?_) AllReadyH.nil
      refine step_alloc_cl rfl rfl ?_
      simp only [List.getElem_toArray, List.getElem_cons_succ, List.getElem_cons_zero, Act.put, List.setIfInBounds_toArray, List.set_cons_zero, List.set_cons_succ]
      simp only [hszA, hszB]
      refine hK2.out _ _ (h2.below ((Below.refl _ _).alloc (Nat.le_refl _) _)) (fun h3 => ?_)
      refine wpAnyH_ready (rs := [4]) (by kernel_rfl) (by simp) ?_
      refine AllReadyH.cons (o := _) rfl (fun K4 hK4 => ?_) AllReadyH.nil
      refine step_store_cl rfl _ _ rfl (W1.heap.size) rfl c p rfl cl0 p30 D2 ?_
      simp only [List.getElem_toArray, List.getElem_cons_succ, List.getElem_cons_zero, Act.put, List.setIfInBounds_toArray, List.set_cons_zero, List.set_cons_succ]
      refine hK4.out _ _ (h3.other (by omega)) (fun h4 => ?_)
      refine wpAnyH_ready (rs := [5]) (by kernel_rfl) (by simp) ?_
      refine AllReadyH.cons (o := _) rfl (fun K5 hK5 => ?_) AllReadyH.nil
      refine step_store_cl rfl _ _ rfl (W1.heap.size + 1) rfl c p rfl cl0 p30 (ClBox.other D3 (by omega)) ?_
      simp only [List.getElem_toArray, List.getElem_cons_succ, List.getElem_cons_zero, Act.put, List.setIfInBounds_toArray, List.set_cons_zero, List.set_cons_succ]
      refine hK5.out _ _ (h4.other (by omega)) (fun h5 => ?_)
      refine wpAnyH_done (by kernel_rfl) ?_ _
      go_wp2_with fail
      go_meet
      exact ⟨W1.heap.size, W1.heap.size + 1, rfl, rfl, by omega, by omega, by omega, Lib.hid (below_setRow (below_setRow ((((Below.refl W1.heap.size W1).drew).alloc (Nat.le_refl _) _).alloc (by simp) _) (by omega) _) (by omega) _), Lib.hid (ClBox.other (ClBox.set D2) (by omega)), Lib.hid (ClBox.set (ClBox.other D3 (by omega))), by simp; try omega, by simp; try omega⟩
    · refine step_alloc_cl rfl rfl ?_
      simp only [List.getElem_toArray, List.getElem_cons_succ, List.getElem_cons_zero, Act.put, List.setIfInBounds_toArray, List.set_cons_zero, List.set_cons_succ]
      refine hK.out _ _ (hHeld.below ((Below.refl _ _).alloc (Nat.le_refl _) _)) (fun h2 => ?_)
      refine wpAnyH_ready (rs := [2]) (by kernel_rfl) (by simp) ?_
      refine AllReadyH.cons (o := _) rfl (fun K2 hK2 => ?_) AllReadyH.nil
      refine step_alloc_cl rfl rfl ?_
      simp only [List.getElem_toArray, List.getElem_cons_succ, List.getElem_cons_zero, Act.put, List.setIfInBounds_toArray, List.set_cons_zero, List.set_cons_succ]
      simp only [hszA, hszB]
      refine hK2.out _ _ (h2.below ((Below.refl _ _).alloc (Nat.le_refl _) _)) (fun h3 => ?_)
      refine wpAnyH_ready (rs := [4]) (by kernel_rfl) (by simp) ?_
      refine AllReadyH.cons (o := _) rfl (fun K4 hK4 => ?_) AllReadyH.nil
      refine step_store_cl rfl _ _ rfl (W1.heap.size + 1) rfl c p rfl cl0 p30 D3 ?_
      simp only [List.getElem_toArray, List.getElem_cons_succ, List.getElem_cons_zero, Act.put, List.setIfInBounds_toArray, List.set_cons_zero, List.set_cons_succ]
      refine hK4.out _ _ (h3.other (by omega)) (fun h4 => ?_)
      refine wpAnyH_ready (rs := [5]) (by kernel_rfl) (by simp) ?_
      refine AllReadyH.cons (o := _) rfl (fun K5 hK5 => ?_) AllReadyH.nil
      refine step_store_cl rfl _ _ rfl (W1.heap.size) rfl c p rfl cl0 p30 (ClBox.other D2 (by omega)) ?_
      simp only [List.getElem_toArray, List.getElem_cons_succ, List.getElem_cons_zero, Act.put, List.setIfInBounds_toArray, List.set_cons_zero, List.set_cons_succ]
      refine hK5.out _ _ (h4.other (by omega)) (fun h5 => ?_)
      refine wpAnyH_done (by kernel_rfl) ?_ _
      go_wp2_with fail
      go_meet
      exact ⟨W1.heap.size + 1, W1.heap.size, rfl, rfl, by omega, by omega, by omega, Lib.hid (below_setRow (below_setRow ((((Below.refl W1.heap.size W1).drew).alloc (Nat.le_refl _) _).alloc (by simp) _) (by omega) _) (by omega) _), Lib.hid (ClBox.other (ClBox.set D3) (by omega)), Lib.hid (ClBox.set (ClBox.other D2 (by omega))), by simp; try omega, by simp; try omega⟩
  case rest =>
    obtain ⟨g2, g3, rfl, rfl, h12, h13, h23, BX, X2, X3, hg2, hg3⟩ := hcut
    have hX2 : Hid (Has wc [(g1, clO c p), (g2, clO c p), (g3, clO c p)]) := Lib.hid (((Has.add (l := []) (fun x hx => by simp at hx) X3.out).add X2.out).add (X1.out.below BX.out))
    have ATc := Lib.hid (AT.out.below BX.out)
    have Bc := Lib.hid (bthen B1.out BX.out)
    have q1 := X2.out.cells.2.2.2.2.2.2.2.2.1
    have qf1 : wc.frozen? ⟨g2, 8, none⟩ = false := frozen_of_row wc g2 8 _ _ X2.out
    have q2 := X3.out.cells.2.2.2.2.2.2.2.2.2.2.2.2.2.2.2
    have qf2 : wc.frozen? ⟨g3, 15, none⟩ = false := frozen_of_row wc g3 15 _ _ X3.out
    have HH3 : Hid (Has ((wc.setCell ⟨g2, 8, none⟩ (.slice none 0 0)).setCell ⟨g3, 15, none⟩ (.int .i64 4)) [(g1, clO c p), (g2, clO (withAud c []) ⟨none, 0, p.a2, p.c2, p.a3, p.c3⟩), (g3, clO (withLev c 4) p)]) := Lib.hid (by
      have x1 := X1.out.below BX.out
      have x2 := X2.out.aud [] none 0
      have x3 : ClBox ((wc.setCell ⟨g2, 8, none⟩ (.slice none 0 0)).setCell ⟨g3, 15, none⟩ (.int .i64 4)) g3 (withLev c 4) p := ClBox.put ((heap_setCell_other wc ⟨g2, 8, none⟩ g3 _ (by show g3 ≠ g2; omega)).trans X3.out) _ _ rfl
      refine ((Has.add (l := []) (fun x hx => by simp at hx) x3).add ((heap_setCell_other _ ⟨g3, 15, none⟩ g2 _ (by show g2 ≠ g3; omega)).trans x2)).add ?_
      exact (heap_setCell_other _ ⟨g3, 15, none⟩ g1 _ (by show g1 ≠ g3; omega)).trans ((heap_setCell_other _ ⟨g2, 8, none⟩ g1 _ (by show g1 ≠ g2; omega)).trans x1))
    have B3 : Hid (Below w.heap.size w ((wc.setCell ⟨g2, 8, none⟩ (.slice none 0 0)).setCell ⟨g3, 15, none⟩ (.int .i64 4))) := Lib.hid ((Bc.out.setCell (by show w.heap.size ≤ g2; omega) _).setCell (by show w.heap.size ≤ g3; omega) _)
    have HLT1 : Hid (w1.heap.size < w1.heap.size + 1) := Lib.hid (by omega)
    have BG : Hid (Below g1 w1 wc) := Lib.hid (by
      have h1 : Below w1.heap.size w1 W1 := by rw [← HW1.out]; exact below_setRow ((Below.refl _ _).alloc (Nat.le_refl _) _) (Nat.le_refl _) _
      rw [HG1.out] at h1
      exact h1.trans (BX.out.mono (by have := HSZ.out; omega)))
    have AT3 : Hid (ClAt ((wc.setCell ⟨g2, 8, none⟩ (.slice none 0 0)).setCell ⟨g3, 15, none⟩ (.int .i64 4)) c p) := Lib.hid (AT.out.below ((BX.out.setCell (by have := HSZ.out; show W1.heap.size ≤ g2; omega) _).setCell (by have := HSZ.out; show W1.heap.size ≤ g3; omega) _))
    obtain ⟨W3, HW3⟩ : ∃ W, Hid (((wc.setCell ⟨g2, 8, none⟩ (.slice none 0 0)).setCell ⟨g3, 15, none⟩ (.int .i64 4)) = W) := ⟨_, Lib.hid rfl⟩
    rw [HW3.out] at HH3 B3 AT3
    have XA1 : Hid (ClBox ((wc.setCell ⟨g2, 8, none⟩ (.slice none 0 0)).setCell ⟨g3, 15, none⟩ (.int .i64 4)) g1 c p) := Lib.hid (by rw [HW3.out]; exact HH3.out.get _ _ (by simp))
    obtain ⟨hf1, hf2, hf3, hf4, hf5⟩ := smp_fits
    have hin : ClIn c p := ClIn.fits (by rw [← HC.out]; exact hf1) CP.out
    have hin2 : ClIn (withAud c []) ⟨none, 0, p.a2, p.c2, p.a3, p.c3⟩ := ClIn.fits (by rw [← HC.out]; exact hf2) ⟨Nat.le_refl _, CP.out.2.1, CP.out.2.2⟩
    have hin3 : ClIn (withLev c 4) p := ClIn.fits (by rw [← HC.out]; exact hf3) CP.out
    have hdec : IsDec (encS c) c := by rw [← HC.out]; exact ⟨smp_check, rfl, smp_size.1⟩
    obtain ⟨s, HS⟩ : ∃ s, Hid (encS c = s) := ⟨_, Lib.hid rfl⟩
    rw [HS.out] at hdec
    have hsz : s.size ≤ 4096 ∧ 12 ≤ s.size := by rw [← HS.out, ← HC.out]; exact smp_size
    have hhd : s.extract 0 12 = ⟨#[107, 105, 110, 100, 61, 97, 99, 99, 101, 115, 115, 10]⟩ := by rw [← HS.out, ← HC.out]; exact smp_head
    have IN := Lib.hid hin
    have IN2 := Lib.hid hin2
    have IN3 := Lib.hid hin3
    have DC := Lib.hid hdec
    have SZ := Lib.hid hsz
    have HD := Lib.hid hhd
    clear X1 X2 X3 BX Bc ATc hin hin2 hin3 hdec hsz hhd hf1 hf2 hf3 hf4 hf5
    go_wp2_with (first
      | (refine load_cl rfl _ rfl _ rfl g1 rfl c p XA1 ?_; rw [HW3.out])
      | fail)
    clear XA1
    refine (encode_any c p _ IN.out AT3.out (HK.out.below B3.out) (HP.out.below B3.out)).mono ?_
    rintro e w4 ⟨rfl, hb4⟩
    rw [(isDec_enc DC.out).1, (isDec_enc DC.out).2]
    have B4 := Lib.hid (bthen B3.out hb4)
    have HH4 := Lib.hid (HH3.out.below hb4)
    have AT4 := Lib.hid (AT3.out.below hb4)
    clear hb4 HH3 AT3 B3
    go_wp2_with fail
    refine (decode_any s _ (by have := SZ.out.1; omega) (HK.out.below B4.out) (HP.out.below B4.out) (HE.out.below B4.out)).mono ?_
    rintro e w5 ⟨⟨d, q, rfl, hd, hatd, hind⟩ | ⟨rfl, hno⟩, hb5⟩
    rotate_left
    · exact absurd DC.out (hno c)
    have hdc : c = d := (isDec_inj hd DC.out).symm
    subst hdc
    have ZQ : Hid (ClBox (w5.alloc (clO cl0 p30)) w5.heap.size cl0 p30) := Lib.hid (ClBox.new w5 cl0 p30)
    have B5 := Lib.hid (bthen B4.out (bthen hb5 (below_cl w5 c q)))
    have HH5 := Lib.hid ((HH4.out.below hb5).cl c q)
    have AT5 := Lib.hid (AT4.out.below (bthen hb5 (below_cl w5 c q)))
    have AQ5 := Lib.hid (hatd.below (below_cl w5 c q))
    have INQ := Lib.hid hind
    clear hb5 HH4 AT4 B4 hd hatd hind
    obtain ⟨g6, HG6⟩ : ∃ g, Hid (w5.heap.size = g) := ⟨_, Lib.hid rfl⟩
    obtain ⟨W5, HW5⟩ : ∃ W, Hid (((w5.alloc (clO cl0 p30)).setRow w5.heap.size (clA c q)) = W) := ⟨_, Lib.hid rfl⟩
    rw [HW5.out] at B5 HH5 AT5 AQ5
    rw [HG6.out] at HH5
    have XA1 : Hid (ClBox W5 g1 c p) := Lib.hid (HH5.out.get _ _ (by simp))
    have XA6 : Hid (ClBox W5 g6 c q) := Lib.hid (HH5.out.get _ _ (by simp))
    have h12f : decide ((s.size : Int) < 12) = false := by have := SZ.out.2; simp; omega
    have h12 : 12 ≤ s.size := SZ.out.2
    have hhd := HD.out
    go_wp2_with (first
      | (refine alloc_cl rfl _ rfl rfl ?_)
      | (refine store_cl rfl _ rfl _ _ rfl w5.heap.size rfl c q rfl cl0 p30 ZQ ?_; rw [HW5.out, HG6.out])
      | (refine load_cl_g rfl _ rfl _ rfl g1 rfl c p XA1 ?_)
      | (refine load_cl_g rfl _ rfl _ rfl g6 rfl c q XA6 ?_)
      | fail)
    clear XA1 XA6 ZQ h12f h12 hhd q1 q2 qf1 qf2
    refine (equal_any c c p q _ IN.out INQ.out AT5.out AQ5.out).mono ?_
    rintro e w6 ⟨rfl, hb6⟩
    rw [(eqB_iff c c).2 rfl]
    have B6 := Lib.hid (bthen B5.out hb6)
    have HH6 := Lib.hid (HH5.out.below hb6)
    have AT6 := Lib.hid (AT5.out.below hb6)
    clear hb6 HH5 AT5 AQ5 B5
    have XA2 : Hid (ClBox w6 g2 (withAud c []) ⟨none, 0, p.a2, p.c2, p.a3, p.c3⟩) := Lib.hid (HH6.out.get _ _ (by simp))
    go_wp2_with (first
      | (refine load_cl_g rfl _ rfl _ rfl g2 rfl (withAud c []) ⟨none, 0, p.a2, p.c2, p.a3, p.c3⟩ XA2 ?_)
      | fail)
    clear XA2
    refine (check_any (withAud c []) ⟨none, 0, p.a2, p.c2, p.a3, p.c3⟩ _ IN2.out ⟨Strs.nil_ _ _, AT6.out.sco, AT6.out.act⟩).mono ?_
    rintro e w7 ⟨rfl, hb7⟩
    rw [show checkE (withAud c []) = 6 by rw [← HC.out]; exact smp_none]
    have B7 := Lib.hid (bthen B6.out hb7)
    have HH7 := Lib.hid (HH6.out.below hb7)
    have AT7 := Lib.hid (AT6.out.below hb7)
    clear hb7 HH6 AT6 B6
    have XA3 : Hid (ClBox w7 g3 (withLev c 4) p) := Lib.hid (HH7.out.get _ _ (by simp))
    go_wp2_with (first
      | (refine load_cl_g rfl _ rfl _ rfl g3 rfl (withLev c 4) p XA3 ?_)
      | fail)
    clear XA3
    refine (check_any (withLev c 4) p _ IN3.out ⟨AT7.out.aud, AT7.out.sco, AT7.out.act⟩).mono ?_
    rintro e w8 ⟨rfl, hb8⟩
    rw [show checkE (withLev c 4) = 27 by rw [← HC.out]; exact smp_strong]
    have B8 := Lib.hid (bthen B7.out hb8)
    have HH8 := Lib.hid (HH7.out.below hb8)
    have AT8 := Lib.hid (AT7.out.below hb8)
    clear hb8 HH7 AT7 B7
    have Z8 : Hid (ExBox (w8.alloc (exO0 ex0)) w8.heap.size ex0) := Lib.hid (ExBox.new _ _)
    go_upto_region 10 with (first
      | (refine alloc_ex rfl _ rfl rfl ?_)
      | (refine store_ex rfl _ rfl _ _ rfl w8.heap.size rfl exX rfl ex0 Z8 ?_)
      | fail)
    clear Z8
    obtain ⟨g8, HG8⟩ : ∃ g, Hid (w8.heap.size = g) := ⟨_, Lib.hid rfl⟩
    obtain ⟨W8, HW8⟩ : ∃ W, Hid (((w8.alloc (exO0 ex0)).setRow w8.heap.size (exA exX)) = W) := ⟨_, Lib.hid rfl⟩
    have BE8 : Below w8.heap.size w8 ((w8.alloc (exO0 ex0)).setRow w8.heap.size (exA exX)) := below_setRow ((Below.refl _ _).alloc (Nat.le_refl _) _) (Nat.le_refl _) _
    have XE8 : Hid (ExBox ((w8.alloc (exO0 ex0)).setRow w8.heap.size (exA exX)) w8.heap.size exX) := Lib.hid ((ExBox.new w8 ex0).set)
    have SZ8 : ((w8.alloc (exO0 ex0)).setRow w8.heap.size (exA exX)).heap.size = w8.heap.size + 1 := by simp
    have hwz8 : w.heap.size ≤ w8.heap.size := B8.out.size
    have B9 := Lib.hid (bthen B8.out BE8)
    have HH9 := Lib.hid (HH8.out.below BE8)
    have AT9 := Lib.hid (AT8.out.below BE8)
    rw [HW8.out] at XE8 B9 HH9 AT9 SZ8
    rw [HW8.out]
    rw [HG8.out] at XE8 SZ8 hwz8
    rw [HG8.out]
    have HSZ8 := Lib.hid SZ8
    clear BE8 B8 HH8 AT8 SZ8
    have X1E : Hid (ClBox W8 g1 c p) := Lib.hid (HH9.out.get _ _ (by simp))
    have HR9 : Hid (Has W8 [(g8, exO0 exX), (g1, clO c p)]) := Lib.hid ((Has.add (l := []) (fun x hx => by simp at hx) X1E.out).add XE8.out)
    clear HH9 X1E
    simp only [Act.put, List.setIfInBounds_toArray, List.set_cons_succ, List.set_cons_zero]
    go_cut [9, 10] (fun v9 v10 wx => ∃ g9 g10, v9 = .pointer (some ⟨g9, 0, none⟩) ∧ v10 = .pointer (some ⟨g10, 0, none⟩) ∧ g8 < g9 ∧ g8 < g10 ∧ g9 ≠ g10 ∧ Hid (Below W8.heap.size W8 wx) ∧ Hid (ExBox wx g9 exX) ∧ Hid (ExBox wx g10 exX) ∧ g9 < wx.heap.size ∧ g10 < wx.heap.size)
    case first =>
      have hgx : W8.heap.size = g8 + 1 := HSZ8.out
      obtain ⟨D1, D2, D3⟩ := dup_ex W8.drew
      have hszA : (W8.drew.alloc (exO0 ex0)).heap.size = W8.heap.size + 1 := by simp
      have hszB : W8.drew.heap.size = W8.heap.size := rfl
      refine wp_region_held_drew (S := fun w' => ExBox w' g8 exX) (by kernel_rfl) ?_ (fun hHeld => ?_)
      · exact XE8.out
      refine wpAnyH_take (i := 0) (oi := _) (v := exV exX) rfl (by kernel_rfl) (by kernel_rfl) (by kernel_rfl) (fun _ _ _ h => h) (yields_load_ex (by rfl) _ rfl g8 rfl exX (fun _ h => h)) hHeld ?_
      simp only [List.getElem_toArray, List.getElem_cons_succ, List.getElem_cons_zero, Act.put, List.setIfInBounds_toArray, List.set_cons_zero, List.set_cons_succ]
      refine wpAnyH_take (i := 1) (oi := _) (v := exV exX) rfl (by kernel_rfl) (by kernel_rfl) (by kernel_rfl) (fun _ _ _ h => h) (yields_load_ex (by rfl) _ rfl g8 rfl exX (fun _ h => h)) hHeld ?_
      simp only [List.getElem_toArray, List.getElem_cons_succ, List.getElem_cons_zero, Act.put, List.setIfInBounds_toArray, List.set_cons_zero, List.set_cons_succ]
      refine wpAnyH_ready (rs := [2, 3]) (by kernel_rfl) (by simp) ?_
      refine AllReadyH.cons (o := _) rfl (fun K hK => ?_) (AllReadyH.cons (o := _) rfl (fun K hK => ?_) AllReadyH.nil)
      · refine step_alloc_ex rfl rfl ?_
        simp only [List.getElem_toArray, List.getElem_cons_succ, List.getElem_cons_zero, Act.put, List.setIfInBounds_toArray, List.set_cons_zero, List.set_cons_succ]
        refine hK.out _ _ (hHeld.below ((Below.refl _ _).alloc (Nat.le_refl _) _)) (fun h2 => ?_)
        refine wpAnyH_ready (rs := [3]) (by kernel_rfl) (by simp) ?_
        refine AllReadyH.cons (o := _) rfl (fun K2 hK2 => ?_) AllReadyH.nil
        refine step_alloc_ex rfl rfl ?_
        simp only [List.getElem_toArray, List.getElem_cons_succ, List.getElem_cons_zero, Act.put, List.setIfInBounds_toArray, List.set_cons_zero, List.set_cons_succ]
        simp only [hszA, hszB]
        refine hK2.out _ _ (h2.below ((Below.refl _ _).alloc (Nat.le_refl _) _)) (fun h3 => ?_)
        refine wpAnyH_ready (rs := [4]) (by kernel_rfl) (by simp) ?_
        refine AllReadyH.cons (o := _) rfl (fun K4 hK4 => ?_) AllReadyH.nil
        refine step_store_ex rfl _ _ rfl (W8.heap.size) rfl exX rfl ex0 D2 ?_
        simp only [List.getElem_toArray, List.getElem_cons_succ, List.getElem_cons_zero, Act.put, List.setIfInBounds_toArray, List.set_cons_zero, List.set_cons_succ]
        refine hK4.out _ _ (h3.other (by omega)) (fun h4 => ?_)
        refine wpAnyH_ready (rs := [5]) (by kernel_rfl) (by simp) ?_
        refine AllReadyH.cons (o := _) rfl (fun K5 hK5 => ?_) AllReadyH.nil
        refine step_store_ex rfl _ _ rfl (W8.heap.size + 1) rfl exX rfl ex0 (ExBox.other D3 (by omega)) ?_
        simp only [List.getElem_toArray, List.getElem_cons_succ, List.getElem_cons_zero, Act.put, List.setIfInBounds_toArray, List.set_cons_zero, List.set_cons_succ]
        refine hK5.out _ _ (h4.other (by omega)) (fun h5 => ?_)
        refine wpAnyH_done (by kernel_rfl) ?_ _
        go_wp2_with fail
        go_meet
        exact ⟨W8.heap.size, W8.heap.size + 1, rfl, rfl, by omega, by omega, by omega, Lib.hid (below_setRow (below_setRow ((((Below.refl W8.heap.size W8).drew).alloc (Nat.le_refl _) _).alloc (by simp) _) (by omega) _) (by omega) _), Lib.hid (ExBox.other (ExBox.set D2) (by omega)), Lib.hid (ExBox.set (ExBox.other D3 (by omega))), by simp; try omega, by simp; try omega⟩
      · refine step_alloc_ex rfl rfl ?_
        simp only [List.getElem_toArray, List.getElem_cons_succ, List.getElem_cons_zero, Act.put, List.setIfInBounds_toArray, List.set_cons_zero, List.set_cons_succ]
        refine hK.out _ _ (hHeld.below ((Below.refl _ _).alloc (Nat.le_refl _) _)) (fun h2 => ?_)
        refine wpAnyH_ready (rs := [2]) (by kernel_rfl) (by simp) ?_
        refine AllReadyH.cons (o := _) rfl (fun K2 hK2 => ?_) AllReadyH.nil
        refine step_alloc_ex rfl rfl ?_
        simp only [List.getElem_toArray, List.getElem_cons_succ, List.getElem_cons_zero, Act.put, List.setIfInBounds_toArray, List.set_cons_zero, List.set_cons_succ]
        simp only [hszA, hszB]
        refine hK2.out _ _ (h2.below ((Below.refl _ _).alloc (Nat.le_refl _) _)) (fun h3 => ?_)
        refine wpAnyH_ready (rs := [4]) (by kernel_rfl) (by simp) ?_
        refine AllReadyH.cons (o := _) rfl (fun K4 hK4 => ?_) AllReadyH.nil
        refine step_store_ex rfl _ _ rfl (W8.heap.size + 1) rfl exX rfl ex0 D3 ?_
        simp only [List.getElem_toArray, List.getElem_cons_succ, List.getElem_cons_zero, Act.put, List.setIfInBounds_toArray, List.set_cons_zero, List.set_cons_succ]
        refine hK4.out _ _ (h3.other (by omega)) (fun h4 => ?_)
        refine wpAnyH_ready (rs := [5]) (by kernel_rfl) (by simp) ?_
        refine AllReadyH.cons (o := _) rfl (fun K5 hK5 => ?_) AllReadyH.nil
        refine step_store_ex rfl _ _ rfl (W8.heap.size) rfl exX rfl ex0 (ExBox.other D2 (by omega)) ?_
        simp only [List.getElem_toArray, List.getElem_cons_succ, List.getElem_cons_zero, Act.put, List.setIfInBounds_toArray, List.set_cons_zero, List.set_cons_succ]
        refine hK5.out _ _ (h4.other (by omega)) (fun h5 => ?_)
        refine wpAnyH_done (by kernel_rfl) ?_ _
        go_wp2_with fail
        go_meet
        exact ⟨W8.heap.size + 1, W8.heap.size, rfl, rfl, by omega, by omega, by omega, Lib.hid (below_setRow (below_setRow ((((Below.refl W8.heap.size W8).drew).alloc (Nat.le_refl _) _).alloc (by simp) _) (by omega) _) (by omega) _), Lib.hid (ExBox.other (ExBox.set D3) (by omega)), Lib.hid (ExBox.set (ExBox.other D2 (by omega))), by simp; try omega, by simp; try omega⟩
    case rest =>
      obtain ⟨g9, g10, rfl, rfl, h89, h810, h910, BX, X9, X10, hg9, hg10⟩ := hcut
      have hgx : W8.heap.size = g8 + 1 := HSZ8.out
      have h81 : g1 < W8.heap.size := HR9.out.lt (g1, clO c p) (by simp)
      have BY : Hid (Below W8.heap.size W8 ((wc.setCell ⟨g9, 4, none⟩ (.int .i64 20)).setCell ⟨g10, 2, none⟩ (.string ⟨#[120]⟩))) := Lib.hid ((BX.out.setCell (by show W8.heap.size ≤ g9; omega) _).setCell (by show W8.heap.size ≤ g10; omega) _)
      have Y9 : ExBox ((wc.setCell ⟨g9, 4, none⟩ (.int .i64 20)).setCell ⟨g10, 2, none⟩ (.string ⟨#[120]⟩)) g9 exL := (heap_setCell_other _ ⟨g10, 2, none⟩ g9 _ (by show g9 ≠ g10; omega)).trans (X9.out.put 4 _ rfl)
      have Y10 : ExBox ((wc.setCell ⟨g9, 4, none⟩ (.int .i64 20)).setCell ⟨g10, 2, none⟩ (.string ⟨#[120]⟩)) g10 exO := ExBox.put ((heap_setCell_other _ ⟨g9, 4, none⟩ g10 _ (by show g10 ≠ g9; omega)).trans X10.out) 2 _ rfl
      have q1 : wc.cell? ⟨g9, 4, none⟩ = some (.int .i64 19) := cell_of_row wc g9 4 _ _ (0, 0) X9.out
      have qf1 : wc.frozen? ⟨g9, 4, none⟩ = false := frozen_of_row wc g9 4 _ _ X9.out
      have q2 : wc.cell? ⟨g10, 2, none⟩ = some (.string ⟨#[102, 105, 108, 101, 115]⟩) := cell_of_row wc g10 2 _ _ (0, 0) X10.out
      have qf2 : wc.frozen? ⟨g10, 2, none⟩ = false := frozen_of_row wc g10 2 _ _ X10.out
      obtain ⟨W12, HW12⟩ : ∃ W, Hid (((wc.setCell ⟨g9, 4, none⟩ (.int .i64 20)).setCell ⟨g10, 2, none⟩ (.string ⟨#[120]⟩)) = W) := ⟨_, Lib.hid rfl⟩
      rw [HW12.out] at BY Y9 Y10
      have HH12 : Hid (Has W12 [(g9, exO0 exL), (g10, exO0 exO), (g8, exO0 exX), (g1, clO c p)]) := Lib.hid (((HR9.out.below BY.out).add Y10).add Y9)
      have B12 := Lib.hid (bthen B9.out BY.out)
      have AT12 := Lib.hid (AT9.out.below BY.out)
      have XA1 : Hid (ClBox ((wc.setCell ⟨g9, 4, none⟩ (.int .i64 20)).setCell ⟨g10, 2, none⟩ (.string ⟨#[120]⟩)) g1 c p) := Lib.hid (by rw [HW12.out]; exact HH12.out.get _ _ (by simp))
      clear X9 X10 Y9 Y10 BX BY HR9 B9 AT9 XE8
      go_wp2_with (first
        | (refine load_cl rfl _ rfl _ rfl g1 rfl c p XA1 ?_; rw [HW12.out])
        | fail)
      clear XA1 HW12 q1 q2 qf1 qf2
      have S12 : Hid (Strs (W12.alloc (.cells #[.string ⟨#[109, 97, 105, 108]⟩, .string ⟨#[102, 105, 108, 101, 115]⟩] 9)) (some ⟨W12.heap.size, 0, none⟩) smpA) := Lib.hid (strs_row (l := smpA) (heap_alloc_new W12 _) (fun j hj => by
        have : j < 2 := hj
        rcases j with _|_|j <;> first | omega | rfl))
      have BA : Below W12.heap.size W12 (W12.alloc (.cells #[.string ⟨#[109, 97, 105, 108]⟩, .string ⟨#[102, 105, 108, 101, 115]⟩] 9)) := (Below.refl _ _).alloc (Nat.le_refl _) _
      have HC1 := HC.out
      refine (narrow_any c p [] smpA none (some ⟨W12.heap.size, 0, none⟩) 0 2 20 _ IN.out (AT12.out.below BA) (Strs.nil_ _ _) S12.out (by decide) (by decide) (by omega)).mono ?_
      rintro e w13 ⟨⟨p1, rfl, hat13, hcp13⟩, hb13⟩
      have hn0 : narE c [] smpA 20 = 0 := by rw [← HC1]; exact smp_nar.1
      have hn1 : narV c [] smpA 20 = narC c [] smpA 20 := by rw [narV, if_pos hn0]
      have hn2 : eqB (narC c [] smpA 20) (withSco c []) = true := by rw [← HC1]; exact smp_nar.2
      have hn3 : fitsB (narC c [] smpA 20) = true := by rw [← HC1]; exact smp_fits.2.2.2.2
      have hf4 : fitsB (withSco c []) = true := by rw [← HC1]; exact smp_fits.2.2.2.1
      have ha1 : actEr c ⟨#[97, 110, 110]⟩ = 28 := by rw [← HC1]; exact smp_act1
      have ha2 : actEr c ⟨#[98, 111, 98]⟩ = 0 := by rw [← HC1]; exact smp_act2
      have ha3 : (actV c ⟨#[98, 111, 98]⟩).act.length = 1 := by rw [actV, if_pos ha2, ← HC1]; decide
      have hal1 : allowE c exX = 0 := by rw [← HC1]; exact smp_al1
      have hal2 : allowE c exL = 13 := by rw [← HC1]; exact smp_al2
      have hal3 : allowE c exO = 15 := by rw [← HC1]; exact smp_al3
      have hlen : c.aud.length ≤ 9223372036854775807 := IN.out.m1
      rw [hn0, hn1]
      rw [hn1] at hat13 hcp13
      obtain ⟨n, HN⟩ : ∃ n, Hid (narC c [] smpA 20 = n) := ⟨_, Lib.hid rfl⟩
      obtain ⟨m1, HM1⟩ : ∃ m, Hid (actV c ⟨#[97, 110, 110]⟩ = m) := ⟨_, Lib.hid rfl⟩
      obtain ⟨m2, HM2⟩ : ∃ m, Hid (actV c ⟨#[98, 111, 98]⟩ = m) := ⟨_, Lib.hid rfl⟩
      rw [HN.out] at hat13 hcp13 hn2 hn3
      rw [HN.out]
      rw [HM2.out] at ha3
      have HEQ := Lib.hid hn2
      have HINN := Lib.hid (ClIn.fits hn3 hcp13)
      have HF4 := Lib.hid hf4
      have HA1 := Lib.hid ha1
      have HA2 := Lib.hid ha2
      have HA3 := Lib.hid ha3
      have AL1 := Lib.hid hal1
      have AL2 := Lib.hid hal2
      have AL3 := Lib.hid hal3
      have HLE := Lib.hid hlen
      have B13 := Lib.hid (bthen B12.out (bthen BA (bthen hb13 (below_cl w13 n p1))))
      have HH13 := Lib.hid (((HH12.out.below BA).below hb13).cl n p1)
      have AT13 := Lib.hid (((AT12.out.below BA).below hb13).below (below_cl w13 n p1))
      have AN13 := Lib.hid (hat13.below (below_cl w13 n p1))
      have Z13 : Hid (ClBox (w13.alloc (clO cl0 p30)) w13.heap.size cl0 p30) := Lib.hid (ClBox.new _ _ _)
      obtain ⟨g11, HG11⟩ : ∃ g, Hid (w13.heap.size = g) := ⟨_, Lib.hid rfl⟩
      obtain ⟨W13, HW13⟩ : ∃ W, Hid (((w13.alloc (clO cl0 p30)).setRow w13.heap.size (clA n p1)) = W) := ⟨_, Lib.hid rfl⟩
      rw [HW13.out] at B13 HH13 AT13 AN13
      rw [HG11.out] at HH13
      have XA1 : Hid (ClBox W13 g1 c p) := Lib.hid (HH13.out.get _ _ (by simp))
      clear hn0 hn1 hn2 hn3 hf4 ha1 ha2 ha3 hal1 hal2 hal3 hlen HC1 hat13 hcp13 hb13 S12 BA HH12 B12 AT12
      go_wp2_with (first
        | (refine alloc_cl rfl _ rfl rfl ?_)
        | (refine store_cl rfl _ rfl _ _ rfl w13.heap.size rfl n p1 rfl cl0 p30 Z13 ?_; rw [HW13.out, HG11.out])
        | (refine load_cl rfl _ rfl _ rfl g1 rfl c p XA1 ?_)
        | fail)
      clear XA1 Z13 HW13
      refine (act_any c p ⟨#[97, 110, 110]⟩ _ IN.out AT13.out (by decide)).mono ?_
      rintro e w14 ⟨⟨p2, rfl, hat14, hcp14⟩, hb14⟩
      rw [HA1.out, HM1.out]
      have B14 := Lib.hid (bthen B13.out (bthen hb14 (below_cl w14 m1 p2)))
      have HH14 := Lib.hid ((HH13.out.below hb14).cl m1 p2)
      have AT14 := Lib.hid ((AT13.out.below hb14).below (below_cl w14 m1 p2))
      have AN14 := Lib.hid ((AN13.out.below hb14).below (below_cl w14 m1 p2))
      have Z14 : Hid (ClBox (w14.alloc (clO cl0 p30)) w14.heap.size cl0 p30) := Lib.hid (ClBox.new _ _ _)
      obtain ⟨g13, HG13⟩ : ∃ g, Hid (w14.heap.size = g) := ⟨_, Lib.hid rfl⟩
      obtain ⟨W14, HW14⟩ : ∃ W, Hid (((w14.alloc (clO cl0 p30)).setRow w14.heap.size (clA m1 p2)) = W) := ⟨_, Lib.hid rfl⟩
      rw [HW14.out] at B14 HH14 AT14 AN14
      rw [HG13.out] at HH14
      have XA1 : Hid (ClBox W14 g1 c p) := Lib.hid (HH14.out.get _ _ (by simp))
      clear hat14 hcp14 hb14 HH13 B13 AT13 AN13
      go_wp2_with (first
        | (refine alloc_cl rfl _ rfl rfl ?_)
        | (refine store_cl rfl _ rfl _ _ rfl w14.heap.size rfl m1 p2 rfl cl0 p30 Z14 ?_; rw [HW14.out, HG13.out])
        | (refine load_cl rfl _ rfl _ rfl g1 rfl c p XA1 ?_)
        | fail)
      clear XA1 Z14 HW14
      refine (act_any c p ⟨#[98, 111, 98]⟩ _ IN.out AT14.out (by decide)).mono ?_
      rintro e w15 ⟨⟨p3, rfl, hat15, hcp15⟩, hb15⟩
      rw [HA2.out, HM2.out]
      have B15 := Lib.hid (bthen B14.out (bthen hb15 (below_cl w15 m2 p3)))
      have HH15 := Lib.hid ((HH14.out.below hb15).cl m2 p3)
      have AT15 := Lib.hid ((AT14.out.below hb15).below (below_cl w15 m2 p3))
      have AN15 := Lib.hid ((AN14.out.below hb15).below (below_cl w15 m2 p3))
      have Z15 : Hid (ClBox (w15.alloc (clO cl0 p30)) w15.heap.size cl0 p30) := Lib.hid (ClBox.new _ _ _)
      obtain ⟨g15, HG15⟩ : ∃ g, Hid (w15.heap.size = g) := ⟨_, Lib.hid rfl⟩
      obtain ⟨W15, HW15⟩ : ∃ W, Hid (((w15.alloc (clO cl0 p30)).setRow w15.heap.size (clA m2 p3)) = W) := ⟨_, Lib.hid rfl⟩
      rw [HW15.out] at B15 HH15 AT15 AN15
      rw [HG15.out] at HH15
      have XA1 : Hid (ClBox W15 g1 c p) := Lib.hid (HH15.out.get _ _ (by simp))
      have Z17 : Hid (ClBox (W15.alloc (clO cl0 p30)) W15.heap.size cl0 p30) := Lib.hid (ClBox.new _ _ _)
      have X17 : ClBox ((W15.alloc (clO cl0 p30)).setRow W15.heap.size (clA c p)) W15.heap.size c p := Z17.out.set
      have q17 := X17.cells.2.2.2.2.2.2.2.2.2.1
      have qf17 : ((W15.alloc (clO cl0 p30)).setRow W15.heap.size (clA c p)).frozen? ⟨W15.heap.size, 9, none⟩ = false := frozen_of_row _ _ 9 _ _ X17
      have Y17 : ClBox (((W15.alloc (clO cl0 p30)).setRow W15.heap.size (clA c p)).setCell ⟨W15.heap.size, 9, none⟩ (.slice none 0 0)) W15.heap.size (withSco c []) ⟨p.a1, p.c1, none, 0, p.a3, p.c3⟩ := X17.sco [] none 0
      have BL := below_cl W15 c p
      have HO : Has (((W15.alloc (clO cl0 p30)).setRow W15.heap.size (clA c p)).setCell ⟨W15.heap.size, 9, none⟩ (.slice none 0 0)) [(g15, clO m2 p3), (g13, clO m1 p2), (g11, clO n p1), (g9, exO0 exL), (g10, exO0 exO), (g8, exO0 exX), (g1, clO c p)] := HH15.out.below (BL.setCell (Nat.le_refl _) _)
      have hgw : w.heap.size ≤ W15.heap.size := B15.out.size
      obtain ⟨g17, HG17⟩ : ∃ g, Hid (W15.heap.size = g) := ⟨_, Lib.hid rfl⟩
      obtain ⟨W17, HW17⟩ : ∃ W, Hid ((((W15.alloc (clO cl0 p30)).setRow W15.heap.size (clA c p)).setCell ⟨W15.heap.size, 9, none⟩ (.slice none 0 0)) = W) := ⟨_, Lib.hid rfl⟩
      have B17 := Lib.hid (bthen B15.out (BL.setCell (Nat.le_refl _) (p := ⟨W15.heap.size, 9, none⟩) (.slice none 0 0)))
      have AT17 := Lib.hid (AT15.out.below (BL.setCell (Nat.le_refl _) (p := ⟨W15.heap.size, 9, none⟩) (.slice none 0 0)))
      have AN17 := Lib.hid (AN15.out.below (BL.setCell (Nat.le_refl _) (p := ⟨W15.heap.size, 9, none⟩) (.slice none 0 0)))
      clear hat15 hcp15 hb15 HH14 B14 AT14 AN14 HH15 B15 AT15 AN15 BL X17
      go_upto_region 18 with (first
        | (refine alloc_cl rfl _ rfl rfl ?_)
        | (refine store_cl rfl _ rfl _ _ rfl w15.heap.size rfl m2 p3 rfl cl0 p30 Z15 ?_; rw [HW15.out, HG15.out])
        | (refine load_cl rfl _ rfl _ rfl g1 rfl c p XA1 ?_)
        | (refine store_cl rfl _ rfl _ _ rfl W15.heap.size rfl c p rfl cl0 p30 Z17 ?_)
        | fail)
      clear XA1 Z15 Z17 q17 qf17
      rw [HW17.out, HG17.out]
      rw [HW17.out] at Y17 HO B17 AT17 AN17
      rw [HG17.out] at Y17 hgw
      have HH17 : Hid (Has W17 [(g17, clO (withSco c []) ⟨p.a1, p.c1, none, 0, p.a3, p.c3⟩), (g15, clO m2 p3), (g13, clO m1 p2), (g11, clO n p1), (g9, exO0 exL), (g10, exO0 exO), (g8, exO0 exX), (g1, clO c p)]) := Lib.hid (HO.add Y17)
      clear HO Y17
      have XA1 : Hid (ClBox W17 g1 c p) := Lib.hid (HH17.out.get _ _ (by simp))
      have XE1 : Hid (ExBox W17 g8 exX) := Lib.hid (HH17.out.get _ _ (by simp))
      go_wp2_with (first
        | (refine load_cl rfl _ rfl _ rfl g1 rfl c p XA1 ?_)
        | (refine load_ex rfl _ rfl _ rfl g8 rfl exX XE1 ?_)
        | fail)
      clear XA1 XE1
      refine (allow_any c p exX _ HLE.out AT17.out).mono ?_
      rintro e w18 ⟨rfl, hb18⟩
      rw [AL1.out]
      have HH18 := Lib.hid (HH17.out.below hb18)
      have B18 := Lib.hid (bthen B17.out hb18)
      have AT18 := Lib.hid (AT17.out.below hb18)
      have AN18 := Lib.hid (AN17.out.below hb18)
      clear hb18 HH17 B17 AT17 AN17
      have XA1 : Hid (ClBox w18 g1 c p) := Lib.hid (HH18.out.get _ _ (by simp))
      have XE1 : Hid (ExBox w18 g9 exL) := Lib.hid (HH18.out.get _ _ (by simp))
      go_wp2_with (first
        | (refine load_cl_g rfl _ rfl _ rfl g1 rfl c p XA1 ?_)
        | (refine load_ex_g rfl _ rfl _ rfl g9 rfl exL XE1 ?_)
        | fail)
      clear XA1 XE1
      refine (allow_any c p exL _ HLE.out AT18.out).mono ?_
      rintro e w19 ⟨rfl, hb19⟩
      rw [AL2.out]
      have HH19 := Lib.hid (HH18.out.below hb19)
      have B19 := Lib.hid (bthen B18.out hb19)
      have AT19 := Lib.hid (AT18.out.below hb19)
      have AN19 := Lib.hid (AN18.out.below hb19)
      clear hb19 HH18 B18 AT18 AN18
      have XA1 : Hid (ClBox w19 g1 c p) := Lib.hid (HH19.out.get _ _ (by simp))
      have XE1 : Hid (ExBox w19 g10 exO) := Lib.hid (HH19.out.get _ _ (by simp))
      go_wp2_with (first
        | (refine load_cl_g rfl _ rfl _ rfl g1 rfl c p XA1 ?_)
        | (refine load_ex_g rfl _ rfl _ rfl g10 rfl exO XE1 ?_)
        | fail)
      clear XA1 XE1
      refine (allow_any c p exO _ HLE.out AT19.out).mono ?_
      rintro e w20 ⟨rfl, hb20⟩
      rw [AL3.out]
      have HH20 := Lib.hid (HH19.out.below hb20)
      have B20 := Lib.hid (bthen B19.out hb20)
      have AT20 := Lib.hid (AT19.out.below hb20)
      have AN20 := Lib.hid (AN19.out.below hb20)
      clear hb20 HH19 B19 AT19 AN19
      have XA1 : Hid (ClBox w20 g11 n p1) := Lib.hid (HH20.out.get _ _ (by simp))
      have XA2 : Hid (ClBox w20 g17 (withSco c []) ⟨p.a1, p.c1, none, 0, p.a3, p.c3⟩) := Lib.hid (HH20.out.get _ _ (by simp))
      go_wp2_with (first
        | (refine load_cl_g rfl _ rfl _ rfl g11 rfl n p1 XA1 ?_)
        | (refine load_cl_g rfl _ rfl _ rfl g17 rfl (withSco c []) ⟨p.a1, p.c1, none, 0, p.a3, p.c3⟩ XA2 ?_)
        | fail)
      clear XA1 XA2
      refine (equal_any n (withSco c []) p1 ⟨p.a1, p.c1, none, 0, p.a3, p.c3⟩ _ HINN.out (ClIn.fits HF4.out ⟨CP.out.1, Nat.le_refl _, CP.out.2.2⟩) AN20.out ⟨AT20.out.aud, Strs.nil_ _ _, AT20.out.act⟩).mono ?_
      rintro e w21 ⟨rfl, hb21⟩
      rw [HEQ.out]
      have B21 := Lib.hid (bthen B20.out hb21)
      have x15 := (show ClBox w21 g15 m2 p3 from (HH20.out.below hb21).get _ _ (by simp)).cells.2.2.2.2.2.2.2.2.2.2.1
      rw [HA3.out] at x15
      clear hb21 HH20 B20 AT20 AN20
      go_wp2_with fail
      go_ret
      exact ⟨rfl, B21.out⟩
end Go.Proofs.YtpmikpijonccjaaGreatDoor

/- The laws' few, light and within. -/
namespace Go.Proofs.YtpmikpijonccjaaGreatDoor
open Go.RowKit

def fewB (l : List ByteArray) : Bool := decide (l.length ≤ 20 ∧ ∀ s ∈ l, s.size ≤ 300)
theorem fewB_no {l : List ByteArray} (i : Nat) (h : i < l.length) (hs : 300 < l[i].size) : fewB l = false := by
  rw [fewB, decide_eq_false_iff_not]
  rintro ⟨_, h2⟩
  have := h2 _ (List.getElem_mem h)
  omega
theorem fewB_end {l : List ByteArray} {k : Nat} (hk : k = l.length ∨ k = 20) (hz : ∀ x ∈ l.take k, x.size ≤ 300) : fewB l = decide (l.length ≤ 20) := by
  by_cases h : l.length ≤ 20
  · have e : l.take k = l := List.take_of_length_le (by omega)
    rw [e] at hz
    rw [decide_eq_true h, fewB, decide_eq_true_iff]
    exact ⟨h, hz⟩
  · rw [decide_eq_false h, fewB, decide_eq_false_iff_not]
    exact fun h2 => h h2.1
theorem fewB_facts {l : List ByteArray} (h : fewB l = true) : l.length ≤ 20 ∧ ∀ x ∈ l, x.size ≤ 300 := by
  rw [fewB, decide_eq_true_iff] at h; exact h
set_option maxHeartbeats 2000000 in
theorem few25_any (l : List ByteArray) (A : Option Addr) (c : Nat) (w : World) (hS : Strs w A l) (hl : l.length ≤ 9223372036854775807) :
    Calls Tryz.prog 20 #[.slice A l.length c] w fun e w' => e = .returned (.bool (fewB l)) ∧ w = w' := by
  have HS := Lib.hid hS
  clear hS
  go_enter Tryz.func20, Tryz.ntmps20
  go_wp2_with fail
  go_loop [3] (fun i => ∃ k : Nat, k ≤ l.length ∧ k ≤ 20 ∧ i = .int .i64 k ∧ Hid (∀ x ∈ l.take k, x.size ≤ 300)) (fun i => l.length - (intOf i).toNat)
  case atStart => exact ⟨0, Nat.zero_le _, by omega, rfl, Lib.hid (fun p hp => by simp at hp)⟩
  case round =>
    obtain ⟨k, hk, hk20, rfl, HZ⟩ := hrel
    by_cases hlt : k < l.length
    · by_cases h20 : 20 ≤ k
      · have HE : Hid (fewB l = decide (l.length ≤ 20)) := Lib.hid (fewB_end (.inr (by omega)) HZ.out)
        have HQ : Hid (decide ((l.length : Int) ≤ 20) = fewB l) := Lib.hid (by rw [HE.out]; exact decide_eq_decide.2 (by omega))
        go_wp2_with fail
        go_ret
        exact ⟨ret_bool HQ.out, rfl⟩
      · obtain ⟨b, o, rfl, hc⟩ := HS.out k hlt
        have HT : Hid (l.take (k + 1) = l.take k ++ [l[k]]) := by show _ = _; rw [List.take_succ_eq_append_getElem hlt]
        have HN : Hid (300 < l[k].size → fewB l = false) := Lib.hid (fun h => fewB_no k hlt h)
        generalize l[k] = s at *
        by_cases hs : 300 < s.size
        · have HF := Lib.hid (HN.out hs)
          go_wp2_with fail
          go_ret
          exact ⟨ret_bool HF.out.symm, rfl⟩
        · have HZ2 : Hid (∀ x ∈ l.take (k + 1), x.size ≤ 300) := Lib.hid (by
            rw [HT.out]
            intro x hx
            rw [List.mem_append, List.mem_singleton] at hx
            rcases hx with hx | rfl
            · exact HZ.out x hx
            · omega)
          go_wp2_with fail
          go_round
          case rel => exact ⟨k + 1, hlt, by omega, by go_num, HZ2⟩
          case measure => simp [intOf]; omega
    · have HE : Hid (fewB l = decide (l.length ≤ 20)) := Lib.hid (fewB_end (.inl (by omega)) HZ.out)
      have HQ : Hid (decide ((l.length : Int) ≤ 20) = fewB l) := Lib.hid (by rw [HE.out]; exact decide_eq_decide.2 (by omega))
      go_wp2_with fail
      go_ret
      exact ⟨ret_bool HQ.out, rfl⟩

def strsC (c : Cl) : List ByteArray := [c.kind, c.issuer, c.subject, c.client, c.tenant, c.id, c.session, c.nonce]
/-- The laws' light. -/
def lightC (c : Cl) : Bool := fewB (strsC c) && (fewB c.aud && (fewB c.sco && fewB c.act))
structure LightF (c : Cl) : Prop where
  s0 : c.kind.size ≤ 300
  s1 : c.issuer.size ≤ 300
  s2 : c.subject.size ≤ 300
  s3 : c.client.size ≤ 300
  s4 : c.tenant.size ≤ 300
  s5 : c.id.size ≤ 300
  s6 : c.session.size ≤ 300
  s7 : c.nonce.size ≤ 300
  l1 : c.aud.length ≤ 20
  l2 : c.sco.length ≤ 20
  l3 : c.act.length ≤ 20
  z1 : ∀ s ∈ c.aud, s.size ≤ 300
  z2 : ∀ s ∈ c.sco, s.size ≤ 300
  z3 : ∀ s ∈ c.act, s.size ≤ 300
theorem lightC_facts {c : Cl} (h : lightC c = true) : LightF c := by
  rw [lightC, Bool.and_eq_true, Bool.and_eq_true, Bool.and_eq_true] at h
  obtain ⟨h0, h1, h2, h3⟩ := h
  have g0 := (fewB_facts h0).2
  have g1 := fewB_facts h1
  have g2 := fewB_facts h2
  have g3 := fewB_facts h3
  exact ⟨g0 _ (by simp [strsC]), g0 _ (by simp [strsC]), g0 _ (by simp [strsC]), g0 _ (by simp [strsC]), g0 _ (by simp [strsC]), g0 _ (by simp [strsC]), g0 _ (by simp [strsC]), g0 _ (by simp [strsC]), g1.1, g2.1, g3.1, g1.2, g2.2, g3.2⟩
set_option maxHeartbeats 4000000 in
set_option maxRecDepth 100000 in
theorem light25_any (c : Cl) (p : P3) (w : World) (hC : ClAt w c p) (h1 : c.aud.length ≤ 9223372036854775807) (h2 : c.sco.length ≤ 9223372036854775807) (h3 : c.act.length ≤ 9223372036854775807) :
    Calls Tryz.prog 10 #[clV c p] w fun e w' => e = .returned (.bool (lightC c)) ∧ Below w.heap.size w w' := by
  have X1 : Hid (ClBox (w.alloc (clO c p)) w.heap.size c p) := Lib.hid (ClBox.new w c p)
  have B2 : Hid (Below w.heap.size w ((w.alloc (clO c p)).alloc (.cells (strCells c) 9))) := Lib.hid (((Below.refl _ _).alloc (Nat.le_refl _) _).alloc (by simp) _)
  have X2 : Hid (ClBox ((w.alloc (clO c p)).alloc (.cells (strCells c) 9)) w.heap.size c p) := Lib.hid (X1.out.below ((Below.refl _ _).alloc (Nat.le_refl _) _))
  have S2 : Hid (Strs ((w.alloc (clO c p)).alloc (.cells (strCells c) 9)) (some ⟨w.heap.size + 1, 0, none⟩) (strsC c)) := Lib.hid (strs_row (cs := strCells c) (by have h := heap_alloc_new (w.alloc (clO c p)) (.cells (strCells c) 9); rwa [show (w.alloc (clO c p)).heap.size = w.heap.size + 1 by simp] at h) (fun j hj => by
    have hj8 : j < 8 := hj
    rcases j with _|_|_|_|_|_|_|_|j <;> first | omega | rfl))
  have F0 := Lib.hid (few25_any (strsC c) (some ⟨w.heap.size + 1, 0, none⟩) 8 _ S2.out (by show 8 ≤ _; omega))
  have F1 := Lib.hid (few25_any c.aud p.a1 p.c1 _ (hC.below B2.out).aud h1)
  have F2 := Lib.hid (few25_any c.sco p.a2 p.c2 _ (hC.below B2.out).sco h2)
  have F3 := Lib.hid (few25_any c.act p.a3 p.c3 _ (hC.below B2.out).act h3)
  have HV : Hid (lightC c = (fewB (strsC c) && (fewB c.aud && (fewB c.sco && fewB c.act)))) := Lib.hid rfl
  obtain ⟨b0, HB0⟩ : ∃ b, Hid (fewB (strsC c) = b) := ⟨_, Lib.hid rfl⟩
  obtain ⟨b1, HB1⟩ : ∃ b, Hid (fewB c.aud = b) := ⟨_, Lib.hid rfl⟩
  obtain ⟨b2, HB2⟩ : ∃ b, Hid (fewB c.sco = b) := ⟨_, Lib.hid rfl⟩
  obtain ⟨b3, HB3⟩ : ∃ b, Hid (fewB c.act = b) := ⟨_, Lib.hid rfl⟩
  rw [HB0.out] at F0 HV
  rw [HB1.out] at F1 HV
  rw [HB2.out] at F2 HV
  rw [HB3.out] at F3 HV
  rw [HV.out]
  clear hC h1 h2 h3
  obtain ⟨x0, x1, x2, x3, x4, x5, x6, x7, _⟩ := X1.out.cells
  obtain ⟨_, _, _, _, _, _, _, _, x8, x9, x10, _⟩ := X2.out.cells
  go_enter Tryz.func10, Tryz.ntmps10
  go_wp2_with (first | (refine box_cl rfl _ rfl _ rfl c p rfl ?_) | fail)
  refine F0.out.mono ?_
  rintro e wsame ⟨rfl, rfl⟩
  cases b0 with
  | false =>
    go_wp2_with fail
    go_ret
    exact ⟨rfl, B2.out⟩
  | true =>
    go_wp2_with fail
    refine F1.out.mono ?_
    rintro e wsame ⟨rfl, rfl⟩
    cases b1 with
    | false =>
      go_wp2_with fail
      go_ret
      exact ⟨rfl, B2.out⟩
    | true =>
      go_wp2_with fail
      refine F2.out.mono ?_
      rintro e wsame ⟨rfl, rfl⟩
      cases b2 with
      | false =>
        go_wp2_with fail
        go_ret
        exact ⟨rfl, B2.out⟩
      | true =>
        go_wp2_with fail
        refine F3.out.mono ?_
        rintro e wsame ⟨rfl, rfl⟩
        go_wp2_with fail
        go_ret
        exact ⟨rfl, B2.out⟩
set_option maxHeartbeats 2000000 in
theorem within25_any (a b : List ByteArray) (A B : Option Addr) (c d : Nat) (w : World) (hA : Strs w A a) (hB : Strs w B b) (hb : b.length ≤ 9223372036854775807) (ha : a.length ≤ 9223372036854775807) :
    Calls Tryz.prog 27 #[.slice A a.length c, .slice B b.length d] w fun e w' => e = .returned (.bool (allIn a b)) ∧ w = w' := by
  have HA := Lib.hid hA
  have HC := Lib.hid (fun s => has_any b B d s w hB hb)
  have HBD := Lib.hid (fun k hk h => @allIn_bad a b k hk h)
  obtain ⟨V, HV⟩ : ∃ V, Hid (allIn a b = V) := ⟨_, Lib.hid rfl⟩
  have HDN : Hid (∀ k, ¬ k < a.length → allIn (a.take k) b = true → V = true) := Lib.hid (fun k h1 h2 => HV.out.symm.trans (allIn_done h1 h2))
  rw [HV.out] at HBD
  rw [HV.out]
  clear hA hB
  go_enter Tryz.func27, Tryz.ntmps27
  go_wp2_with fail
  go_loop [5] (fun i => ∃ k : Nat, k ≤ a.length ∧ i = .int .i64 k ∧ Hid (allIn (a.take k) b = true)) (fun i => a.length - (intOf i).toNat)
  case atStart => exact ⟨0, Nat.zero_le _, rfl, Lib.hid rfl⟩
  case round =>
    obtain ⟨k, hk, rfl, HM⟩ := hrel
    by_cases hlt : k < a.length
    · obtain ⟨b0, o, rfl, hc⟩ := HA.out k hlt
      have HST := Lib.hid (fun h => allIn_step hlt HM.out h)
      have HBK := Lib.hid (HBD.out k hlt)
      obtain ⟨x, HX⟩ : ∃ x, Hid (a[k] = x) := ⟨_, Lib.hid rfl⟩
      rw [HX.out] at hc HST HBK
      obtain ⟨M, HMM⟩ : ∃ M, Hid (memB b x = M) := ⟨_, Lib.hid rfl⟩
      rw [HMM.out] at HST HBK
      go_wp2_with fail
      refine (HC.out x).mono ?_
      rintro e wsame ⟨rfl, rfl⟩
      rw [HMM.out]
      cases M with
      | true =>
        go_wp2_with fail
        go_round
        case rel => exact ⟨k + 1, hlt, by go_num, Lib.hid (HST.out (by trivial))⟩
        case measure => simp [intOf]; omega
      | false =>
        have hG := Lib.hid (HBK.out (by trivial))
        go_wp2_with fail
        go_ret
        exact ⟨ret_b hG.out.symm, rfl⟩
    · have hG := Lib.hid (HDN.out k hlt HM.out)
      go_wp2_with fail
      go_ret
      exact ⟨ret_b hG.out.symm, rfl⟩
end Go.Proofs.YtpmikpijonccjaaGreatDoor

/- identityref03.Same. -/
namespace Go.Proofs.YtpmikpijonccjaaGreatDoor
open Go.RowKit

set_option maxHeartbeats 1600000 in
set_option maxRecDepth 100000 in
theorem same_any (l m : List ByteArray) (A B : Option Addr) (c d : Nat) (w : World) (hA : Strs w A l) (hB : Strs w B m) (hl : l.length ≤ 1000000) (hm : m.length ≤ 1000000) :
    Calls Tryz.prog 41 #[.slice A l.length c, .slice B m.length d] w fun e w' => e = .returned (.bool (decide (l = m))) ∧ Below w.heap.size w w' := by
  by_cases hlen : l.length = m.length
  · have hb : ((l.length : Int) != (m.length : Int)) = false := by rw [hlen]; simp
    have HL := Lib.hid hlen
    have hlm : l.length ≤ m.length := by omega
    clear hlen
    go_enter Tryz.func41, Tryz.ntmps41
    go_wp2
    go_loopw [5] (fun i wr => ∃ k : Nat, k ≤ l.length ∧ i = .int .i64 k ∧ l.take k = m.take k ∧ Below w.heap.size w wr) (fun i _ => l.length - (intOf i).toNat)
    case atStart => exact ⟨0, by omega, rfl, rfl, Below.refl _ _⟩
    case round =>
      obtain ⟨k, hk, rfl, htk, hbr⟩ := hrel
      have HT := Lib.hid htk
      clear htk
      by_cases hlt : k < l.length
      · obtain ⟨b, o, rfl, hc⟩ := (hA.below hbr) k hlt
        obtain ⟨b2, o2, rfl, hc2⟩ := (hB.below hbr) k (by omega)
        have i1 : (0 : Int) ≤ (k : Int) := by omega
        have i2 : (k : Int) < (l.length : Int) := by omega
        have i3 : (k : Int) < (m.length : Int) := by omega
        by_cases he : l[k] = m[k]
        · have HS : Hid (l.take (k + 1) = m.take (k + 1)) := by
            show _ = _
            rw [List.take_succ_eq_append_getElem hlt, List.take_succ_eq_append_getElem (by omega), HT.out, he]
          go_wp2
          go_quiet (fail)
          go_wp2_with fail
          go_roundw
          case rel => exact ⟨k + 1, by omega, by go_num, HS.out, below_drewN hbr _⟩
          case measure => simp [intOf]; omega
        · have hq := str_ne he
          have HS : Hid (decide (l = m) = false) := by
            show _ = _
            rw [decide_eq_false_iff_not]
            intro e
            subst e
            exact he rfl
          clear he
          go_wp2
          go_quiet (fail)
          go_wp2_with fail
          go_ret
          exact ⟨ret_bool HS.out.symm, below_drewN hbr _⟩
      · have HS : Hid (decide (l = m) = true) := by
          show _ = _
          rw [decide_eq_true_iff]
          have h1 := HT.out
          rw [List.take_of_length_le (by omega), List.take_of_length_le (by have := HL.out; omega)] at h1
          exact h1
        go_wp2
        go_ret
        exact ⟨ret_bool HS.out.symm, hbr⟩
  · have hb : ((l.length : Int) != (m.length : Int)) = true := by rw [bne_iff_ne]; omega
    have HS : Hid (decide (l = m) = false) := by
      show _ = _
      rw [decide_eq_false_iff_not]
      intro e
      exact hlen (by rw [e])
    clear hlen
    go_enter Tryz.func41, Tryz.ntmps41
    go_wp2
    go_ret
    exact ⟨ret_bool HS.out.symm, Below.refl _ _⟩
end Go.Proofs.YtpmikpijonccjaaGreatDoor

