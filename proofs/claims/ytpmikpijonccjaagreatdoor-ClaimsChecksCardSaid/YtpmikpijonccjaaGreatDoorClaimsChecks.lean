/- ClaimsChecks: for every two claims the law answers true and leaves its arguments alone; no condition. -/
import Derived.Lay
import Derived.Test.YtpmikpijonccjaaGreatDoorCards
import Derived.Test.YtpmikpijonccjaaGreatDoorTie
import Derived.Test.YtpmikpijonccjaaGreatDoorSeg4
import Derived.Test.YtpmikpijonccjaaGreatDoorSeg10
import Derived.Test.YtpmikpijonccjaaGreatDoorSeg7
import Derived.Test.YtpmikpijonccjaaGreatDoorSeg11
import Derived.Test.YtpmikpijonccjaaGreatDoorSeg12
namespace Go.Proofs.YtpmikpijonccjaaGreatDoor.claimsChecks
open Go.ChangeShapes Go.WideShapes Go.ChangeAt Go.RowKit
open Go.ChangeMaps (open_string)


set_option linter.unusedSimpArgs false in
set_option maxHeartbeats 8000000 in
set_option maxRecDepth 100000 in
theorem walk (a b : Cl) (p q : P3) (w : World) (hk : KeysOk w) (hp : PowOk w) (hE : ErrsOk w) (ha : ClAt w a p) (hb : ClAt w b q) (ia : ClIn a p) (ib : ClIn b q) :
    Calls Tryz.prog 3 #[clV a p, clV b q] w fun e w' => e = .returned (.bool true) ∧ Below w.heap.size w w' := by
  have B1 : Hid (Below w.heap.size w ((w.alloc (clO a p)).alloc (clO b q))) := Lib.hid (((Below.refl _ _).alloc (Nat.le_refl _) _).alloc (by simp) _)
  have X1 : Hid (ClBox ((w.alloc (clO a p)).alloc (clO b q)) w.heap.size a p) := Lib.hid ((ClBox.new w a p).below ((Below.refl _ _).alloc (Nat.le_refl _) _))
  have Y1 : Hid (ClBox ((w.alloc (clO a p)).alloc (clO b q)) (w.heap.size + 1) b q) := Lib.hid (by have h := ClBox.new (w.alloc (clO a p)) b q; simpa using h)
  have A1 := Lib.hid (ha.below B1.out)
  have D1 := Lib.hid (hb.below B1.out)
  have IA := Lib.hid ia
  have IB := Lib.hid ib
  clear ha hb ia ib
  have hsz : (w.alloc (clO a p)).heap.size = w.heap.size + 1 := by simp
  by_cases hl : lightC a = true
  · have HL := Lib.hid hl
    have LA := Lib.hid (lightC_facts hl)
    clear hl
    by_cases hm : lightC b = true
    · have HM := Lib.hid hm
      have LB := Lib.hid (lightC_facts hm)
      clear hm
      obtain ⟨E, HE⟩ : ∃ E, Hid (checkE a = E) := ⟨_, Lib.hid rfl⟩
      obtain ⟨V, HV⟩ : ∃ V, Hid (eqB a b = V) := ⟨_, Lib.hid rfl⟩
      have een : (E == E) = true := by simp
      have vvn : (V == V) = true := by simp
      go_enter Tryz.func3, Tryz.ntmps3
      go_wp2_with (first | (refine box_cl rfl _ rfl _ rfl a p rfl ?_) | (refine box_cl rfl _ rfl _ rfl b q rfl ?_) | (refine load_cl rfl _ rfl _ rfl w.heap.size rfl a p X1 ?_) | fail)
      refine (light25_any a p _ A1.out IA.out.m1 IA.out.m2 IA.out.m3).mono ?_
      rintro e w2 ⟨rfl, hb2⟩
      rw [HL.out]
      have X2 := Lib.hid (X1.out.below hb2)
      have Y2 := Lib.hid (Y1.out.below hb2)
      have A2 := Lib.hid (A1.out.below hb2)
      have D2 := Lib.hid (D1.out.below hb2)
      have B2 := Lib.hid (bthen B1.out hb2)
      clear hb2
      go_wp2_with (first | (refine load_cl_g rfl _ rfl _ rfl (w.heap.size + 1) rfl b q Y2 ?_) | fail)
      refine (light25_any b q _ D2.out IB.out.m1 IB.out.m2 IB.out.m3).mono ?_
      rintro e w3 ⟨rfl, hb3⟩
      rw [HM.out]
      have X3 := Lib.hid (X2.out.below hb3)
      have Y3 := Lib.hid (Y2.out.below hb3)
      have A3 := Lib.hid (A2.out.below hb3)
      have D3 := Lib.hid (D2.out.below hb3)
      have B3 := Lib.hid (bthen B2.out hb3)
      clear hb3 X1 Y1 A1 D1 X2 Y2 A2 D2 B1 B2
      have hdr : Below w3.heap.size w3 w3.drew := (Below.refl _ _).drew
      replace X3 := Lib.hid (X3.out.below hdr)
      replace Y3 := Lib.hid (Y3.out.below hdr)
      replace A3 := Lib.hid (A3.out.below hdr)
      replace D3 := Lib.hid (D3.out.below hdr)
      replace B3 := Lib.hid (bthen B3.out hdr)
      clear hdr
      go_wp2_with fail
      refine wp_region_held_drew (S := fun w' => ClBox w' w.heap.size a p ∧ ClBox w' (w.heap.size + 1) b q) (by kernel_rfl) ?_ (fun hHeld => ?_)
      · first | exact ⟨X3.out, Y3.out⟩ | exact ⟨X4.out, Y4.out⟩ | exact ⟨X5.out, Y5.out⟩ | exact ⟨X6.out, Y6.out⟩ | exact ⟨X7.out, Y7.out⟩ | exact ⟨X8.out, Y8.out⟩
      refine wpAnyH_take (i := 0) (oi := _) (v := _) rfl (by kernel_rfl) (by kernel_rfl) (by kernel_rfl) (fun _ _ _ h => h) (yields_load_cl (by rfl) _ rfl w.heap.size rfl a p (fun _ h => h.1)) (by assumption) ?_
      try simp only [List.getElem_toArray, List.getElem_cons_succ, List.getElem_cons_zero, Act.put, List.setIfInBounds_toArray, List.set_cons_zero, List.set_cons_succ]
      refine wpAnyH_take (i := 2) (oi := _) (v := _) rfl (by kernel_rfl) (by kernel_rfl) (by kernel_rfl) (fun _ _ _ h => h) (yields_load_cl (by rfl) _ rfl w.heap.size rfl a p (fun _ h => h.1)) (by assumption) ?_
      try simp only [List.getElem_toArray, List.getElem_cons_succ, List.getElem_cons_zero, Act.put, List.setIfInBounds_toArray, List.set_cons_zero, List.set_cons_succ]
      refine wpAnyH_ready (rs := [1]) (by kernel_rfl) (by simp) ?_
      refine AllReadyH.cons (o := _) rfl (fun K hK => ?_) AllReadyH.nil
      go_simp
      (refine (check_any a p _ IA.out A3.out).mono ?_; rintro e w4 ⟨rfl, hb4⟩; rw [HE.out]; have X4 := Lib.hid (X3.out.below hb4); have Y4 := Lib.hid (Y3.out.below hb4); have A4 := Lib.hid (A3.out.below hb4); have D4 := Lib.hid (D3.out.below hb4); have B4 := Lib.hid (bthen B3.out hb4); clear hb4)
      clear hHeld
      refine hK.out _ _ ?_ (fun hHeld => ?_)
      · (try dsimp only); first | exact ⟨X3.out, Y3.out⟩ | exact ⟨X4.out, Y4.out⟩ | exact ⟨X5.out, Y5.out⟩ | exact ⟨X6.out, Y6.out⟩ | exact ⟨X7.out, Y7.out⟩ | exact ⟨X8.out, Y8.out⟩
      clear hK K
      try simp only [List.getElem_toArray, List.getElem_cons_succ, List.getElem_cons_zero, Act.put, List.setIfInBounds_toArray, List.set_cons_zero, List.set_cons_succ]
      refine wpAnyH_ready (rs := [3]) (by kernel_rfl) (by simp) ?_
      refine AllReadyH.cons (o := _) rfl (fun K hK => ?_) AllReadyH.nil
      go_simp
      (refine (rcheck_any a p _ IA.out A4.out).mono ?_; rintro e w5 ⟨rfl, hb5⟩; rw [HE.out]; have X5 := Lib.hid (X4.out.below hb5); have Y5 := Lib.hid (Y4.out.below hb5); have A5 := Lib.hid (A4.out.below hb5); have D5 := Lib.hid (D4.out.below hb5); have B5 := Lib.hid (bthen B4.out hb5); clear hb5)
      clear hHeld
      refine hK.out _ _ ?_ (fun hHeld => ?_)
      · (try dsimp only); first | exact ⟨X3.out, Y3.out⟩ | exact ⟨X4.out, Y4.out⟩ | exact ⟨X5.out, Y5.out⟩ | exact ⟨X6.out, Y6.out⟩ | exact ⟨X7.out, Y7.out⟩ | exact ⟨X8.out, Y8.out⟩
      clear hK K
      try simp only [List.getElem_toArray, List.getElem_cons_succ, List.getElem_cons_zero, Act.put, List.setIfInBounds_toArray, List.set_cons_zero, List.set_cons_succ]
      refine wpAnyH_take (i := 4) (oi := _) (v := ?_) rfl (by kernel_rfl) (by kernel_rfl) (by kernel_rfl) (fun _ _ _ h => h) (Or.inl ⟨by rfl, ?_⟩) (by assumption) ?_
      rotate_left
      · (intro w hSw; (try dsimp only at hSw); go_simp; try with_reducible rfl)
      try simp only [List.getElem_toArray, List.getElem_cons_succ, List.getElem_cons_zero, Act.put, List.setIfInBounds_toArray, List.set_cons_zero, List.set_cons_succ]
      refine wpAnyH_take (i := 5) (oi := _) (v := ?_) rfl (by kernel_rfl) (by kernel_rfl) (by kernel_rfl) (fun _ _ _ h => h) (Or.inl ⟨by rfl, ?_⟩) (by assumption) ?_
      rotate_left
      · (intro w hSw; (try dsimp only at hSw); go_simp; try with_reducible rfl)
      try simp only [List.getElem_toArray, List.getElem_cons_succ, List.getElem_cons_zero, Act.put, List.setIfInBounds_toArray, List.set_cons_zero, List.set_cons_succ]
      refine wpAnyH_take (i := 6) (oi := _) (v := _) rfl (by kernel_rfl) (by kernel_rfl) (by kernel_rfl) (fun _ _ _ h => h) (yields_load_cl (by rfl) _ rfl w.heap.size rfl a p (fun _ h => h.1)) (by assumption) ?_
      try simp only [List.getElem_toArray, List.getElem_cons_succ, List.getElem_cons_zero, Act.put, List.setIfInBounds_toArray, List.set_cons_zero, List.set_cons_succ]
      refine wpAnyH_take (i := 7) (oi := _) (v := _) rfl (by kernel_rfl) (by kernel_rfl) (by kernel_rfl) (fun _ _ _ h => h) (yields_load_cl (by rfl) _ rfl (w.heap.size + 1) rfl b q (fun _ h => h.2)) (by assumption) ?_
      try simp only [List.getElem_toArray, List.getElem_cons_succ, List.getElem_cons_zero, Act.put, List.setIfInBounds_toArray, List.set_cons_zero, List.set_cons_succ]
      refine wpAnyH_take (i := 9) (oi := _) (v := _) rfl (by kernel_rfl) (by kernel_rfl) (by kernel_rfl) (fun _ _ _ h => h) (yields_load_cl (by rfl) _ rfl w.heap.size rfl a p (fun _ h => h.1)) (by assumption) ?_
      try simp only [List.getElem_toArray, List.getElem_cons_succ, List.getElem_cons_zero, Act.put, List.setIfInBounds_toArray, List.set_cons_zero, List.set_cons_succ]
      refine wpAnyH_take (i := 10) (oi := _) (v := _) rfl (by kernel_rfl) (by kernel_rfl) (by kernel_rfl) (fun _ _ _ h => h) (yields_load_cl (by rfl) _ rfl (w.heap.size + 1) rfl b q (fun _ h => h.2)) (by assumption) ?_
      try simp only [List.getElem_toArray, List.getElem_cons_succ, List.getElem_cons_zero, Act.put, List.setIfInBounds_toArray, List.set_cons_zero, List.set_cons_succ]
      refine wpAnyH_ready (rs := [8]) (by kernel_rfl) (by simp) ?_
      refine AllReadyH.cons (o := _) rfl (fun K hK => ?_) AllReadyH.nil
      go_simp
      (refine (equal_any a b p q _ IA.out IB.out A5.out D5.out).mono ?_; rintro e w6 ⟨rfl, hb6⟩; rw [HV.out]; have X6 := Lib.hid (X5.out.below hb6); have Y6 := Lib.hid (Y5.out.below hb6); have A6 := Lib.hid (A5.out.below hb6); have D6 := Lib.hid (D5.out.below hb6); have B6 := Lib.hid (bthen B5.out hb6); clear hb6)
      clear hHeld
      refine hK.out _ _ ?_ (fun hHeld => ?_)
      · (try dsimp only); first | exact ⟨X3.out, Y3.out⟩ | exact ⟨X4.out, Y4.out⟩ | exact ⟨X5.out, Y5.out⟩ | exact ⟨X6.out, Y6.out⟩ | exact ⟨X7.out, Y7.out⟩ | exact ⟨X8.out, Y8.out⟩
      clear hK K
      try simp only [List.getElem_toArray, List.getElem_cons_succ, List.getElem_cons_zero, Act.put, List.setIfInBounds_toArray, List.set_cons_zero, List.set_cons_succ]
      refine wpAnyH_ready (rs := [11]) (by kernel_rfl) (by simp) ?_
      refine AllReadyH.cons (o := _) rfl (fun K hK => ?_) AllReadyH.nil
      go_simp
      (refine (requal_any a b p q _ A6.out D6.out ⟨by have := LA.out.l1; omega, by have := LA.out.l2; omega, by have := LA.out.l3; omega⟩ ⟨by have := LB.out.l1; omega, by have := LB.out.l2; omega, by have := LB.out.l3; omega⟩).mono ?_; rintro e w7 ⟨rfl, hb7⟩; rw [HV.out]; have X7 := Lib.hid (X6.out.below hb7); have Y7 := Lib.hid (Y6.out.below hb7); have A7 := Lib.hid (A6.out.below hb7); have D7 := Lib.hid (D6.out.below hb7); have B7 := Lib.hid (bthen B6.out hb7); clear hb7)
      clear hHeld
      refine hK.out _ _ ?_ (fun hHeld => ?_)
      · (try dsimp only); first | exact ⟨X3.out, Y3.out⟩ | exact ⟨X4.out, Y4.out⟩ | exact ⟨X5.out, Y5.out⟩ | exact ⟨X6.out, Y6.out⟩ | exact ⟨X7.out, Y7.out⟩ | exact ⟨X8.out, Y8.out⟩
      clear hK K
      try simp only [List.getElem_toArray, List.getElem_cons_succ, List.getElem_cons_zero, Act.put, List.setIfInBounds_toArray, List.set_cons_zero, List.set_cons_succ]
      refine wpAnyH_take (i := 12) (oi := _) (v := ?_) rfl (by kernel_rfl) (by kernel_rfl) (by kernel_rfl) (fun _ _ _ h => h) (Or.inl ⟨by rfl, ?_⟩) (by assumption) ?_
      rotate_left
      · (intro w hSw; (try dsimp only at hSw); go_simp; try with_reducible rfl)
      try simp only [List.getElem_toArray, List.getElem_cons_succ, List.getElem_cons_zero, Act.put, List.setIfInBounds_toArray, List.set_cons_zero, List.set_cons_succ]
      refine wpAnyH_take (i := 13) (oi := _) (v := ?_) rfl (by kernel_rfl) (by kernel_rfl) (by kernel_rfl) (fun _ _ _ h => h) (Or.inl ⟨by rfl, ?_⟩) (by assumption) ?_
      rotate_left
      · (intro w hSw; (try dsimp only at hSw); go_simp; try with_reducible rfl)
      try simp only [List.getElem_toArray, List.getElem_cons_succ, List.getElem_cons_zero, Act.put, List.setIfInBounds_toArray, List.set_cons_zero, List.set_cons_succ]
      refine wpAnyH_take (i := 14) (oi := _) (v := ?_) rfl (by kernel_rfl) (by kernel_rfl) (by kernel_rfl) (fun _ _ _ h => h) (Or.inl ⟨by rfl, ?_⟩) (by assumption) ?_
      rotate_left
      · (intro w hSw; (try dsimp only at hSw); go_simp; try with_reducible rfl)
      try simp only [List.getElem_toArray, List.getElem_cons_succ, List.getElem_cons_zero, Act.put, List.setIfInBounds_toArray, List.set_cons_zero, List.set_cons_succ]
      refine wpAnyH_ready (rs := [15]) (by kernel_rfl) (by simp) ?_
      refine AllReadyH.cons (o := _) rfl (fun K hK => ?_) AllReadyH.nil
      go_simp
      (refine (awake25_any _ (hk.below B7.out) (hp.below B7.out) (hE.below B7.out)).mono ?_; rintro e w8 ⟨rfl, hb8⟩; have X8 := Lib.hid (X7.out.below hb8); have Y8 := Lib.hid (Y7.out.below hb8); have B8 := Lib.hid (bthen B7.out hb8); clear hb8)
      clear hHeld
      refine hK.out _ _ ?_ (fun hHeld => ?_)
      · (try dsimp only); first | exact ⟨X3.out, Y3.out⟩ | exact ⟨X4.out, Y4.out⟩ | exact ⟨X5.out, Y5.out⟩ | exact ⟨X6.out, Y6.out⟩ | exact ⟨X7.out, Y7.out⟩ | exact ⟨X8.out, Y8.out⟩
      clear hK K
      try simp only [List.getElem_toArray, List.getElem_cons_succ, List.getElem_cons_zero, Act.put, List.setIfInBounds_toArray, List.set_cons_zero, List.set_cons_succ]
      refine wpAnyH_take (i := 16) (oi := _) (v := ?_) rfl (by kernel_rfl) (by kernel_rfl) (by kernel_rfl) (fun _ _ _ h => h) (Or.inl ⟨by rfl, ?_⟩) (by assumption) ?_
      rotate_left
      · (intro w hSw; (try dsimp only at hSw); go_simp; try with_reducible rfl)
      try simp only [List.getElem_toArray, List.getElem_cons_succ, List.getElem_cons_zero, Act.put, List.setIfInBounds_toArray, List.set_cons_zero, List.set_cons_succ]
      refine wpAnyH_take (i := 17) (oi := _) (v := ?_) rfl (by kernel_rfl) (by kernel_rfl) (by kernel_rfl) (fun _ _ _ h => h) (Or.inl ⟨by rfl, ?_⟩) (by assumption) ?_
      rotate_left
      · (intro w hSw; (try dsimp only at hSw); go_simp; try with_reducible rfl)
      try simp only [List.getElem_toArray, List.getElem_cons_succ, List.getElem_cons_zero, Act.put, List.setIfInBounds_toArray, List.set_cons_zero, List.set_cons_succ]
      refine wpAnyH_done (by kernel_rfl) ?_ _
      go_wp2_with fail
      go_ret
      exact ⟨rfl, B8.out⟩
    · have HM : Hid (lightC b = false) := Lib.hid (by simpa using hm)
      clear hm
      go_enter Tryz.func3, Tryz.ntmps3
      go_wp2_with (first | (refine box_cl rfl _ rfl _ rfl a p rfl ?_) | (refine box_cl rfl _ rfl _ rfl b q rfl ?_) | (refine load_cl rfl _ rfl _ rfl w.heap.size rfl a p X1 ?_) | fail)
      refine (light25_any a p _ A1.out IA.out.m1 IA.out.m2 IA.out.m3).mono ?_
      rintro e w2 ⟨rfl, hb2⟩
      rw [HL.out]
      have Y2 := Lib.hid (Y1.out.below hb2)
      have D2 := Lib.hid (D1.out.below hb2)
      have B2 := Lib.hid (bthen B1.out hb2)
      clear hb2
      go_wp2_with (first | (refine load_cl_g rfl _ rfl _ rfl (w.heap.size + 1) rfl b q Y2 ?_) | fail)
      refine (light25_any b q _ D2.out IB.out.m1 IB.out.m2 IB.out.m3).mono ?_
      rintro e w3 ⟨rfl, hb3⟩
      rw [HM.out]
      have BL := Lib.hid (bthen B2.out hb3)
      clear hb3
      go_wp2_with fail
      refine (awake25_any _ (hk.below BL.out) (hp.below BL.out) (hE.below BL.out)).mono ?_
      rintro e wz ⟨rfl, hbz⟩
      have BZ := Lib.hid (bthen BL.out hbz)
      clear hbz
      go_wp2_with fail
      go_ret
      exact ⟨rfl, BZ.out⟩
  · have HL : Hid (lightC a = false) := Lib.hid (by simpa using hl)
    clear hl
    go_enter Tryz.func3, Tryz.ntmps3
    go_wp2_with (first | (refine box_cl rfl _ rfl _ rfl a p rfl ?_) | (refine box_cl rfl _ rfl _ rfl b q rfl ?_) | (refine load_cl rfl _ rfl _ rfl w.heap.size rfl a p X1 ?_) | fail)
    refine (light25_any a p _ A1.out IA.out.m1 IA.out.m2 IA.out.m3).mono ?_
    rintro e w2 ⟨rfl, hb2⟩
    rw [HL.out]
    have BL := Lib.hid (bthen B1.out hb2)
    clear hb2
    go_wp2_with fail
    refine (awake25_any _ (hk.below BL.out) (hp.below BL.out) (hE.below BL.out)).mono ?_
    rintro e wz ⟨rfl, hbz⟩
    have BZ := Lib.hid (bthen BL.out hbz)
    clear hbz
    go_wp2_with fail
    go_ret
    exact ⟨rfl, BZ.out⟩

set_option maxRecDepth 100000 in
/-- What the walk gives, for every argument and every world that holds the listed variables. -/
theorem contract (H : Type) (enc : TypeId × Value → H) (W : World) (base : Nat) (args : Array Value) (ds gs : List (DataW H)) (before : List MemPlace)
    (hval : ∀ (j : Nat) t v, Tryz.f3.params[j]? = some t → args[j]? = some v → Value.okWide Tryz.prog W .any base t v)
    (hW : DataW.Whole enc Tryz.prog Tryz.f3.params.toList Rows.claimsChecksSpec.vars false W args.toList ds gs before) (hL : laidMetH Tryz.prog Rows.claimsChecksRow.laid W) :
    Calls Tryz.prog 3 args W fun e W' => ∃ v, e = .returned v ∧ Rows.claimsChecksSpec.post enc Tryz.prog Tryz.f3 false true false false W args v W' := by
  have hW' := hW
  obtain ⟨p, q, hA0, hV, rfl, hfz, hnd⟩ := hW
  obtain ⟨rfl, rfl⟩ := trodVars_none hV
  have hA1 : DataW.TrodAll enc Tryz.prog W 0 (fun _ => true) true Tryz.f3.params.toList args.toList ds (p ++ []) := by rw [List.append_nil]; exact hA0
  have hA : DataW.TrodAll enc Tryz.prog W 0 (fun _ => true) true Tryz.f3.params.toList args.toList ds p := hA0
  rw [Tryz.params3] at hA hval
  obtain ⟨v0, vs0, d0, ds0, p0, q0, hargs, rfl, rfl, h0, r0⟩ := trodAll_cons hA
  obtain ⟨v1, vs1, d1, ds1, p1, q1, rfl, rfl, rfl, h1, r1⟩ := trodAll_cons r0
  obtain ⟨rfl, rfl, rfl⟩ := trodAll_nil r1
  obtain rfl : args = #[v0, v1] := by cases args; simp_all
  obtain ⟨x0, q0, rfl, at0, in0⟩ := open_cl (hval 0 24 v0 rfl rfl) h0
  obtain ⟨x1, q1, rfl, at1, in1⟩ := open_cl (hval 1 24 v1 rfl rfl) h1
  obtain ⟨hk, hp, hE⟩ := laid_tabs hL
  refine (walk x0 x1 q0 q1 W hk hp hE at0 at1 in0 in1).mono fun e W' ⟨he, hb⟩ => ?_
  subst he
  exact ⟨_, rfl, law_post laidOut (by kernel_rfl) (by kernel_rfl) Tryz.underlying4 hW' rfl rfl hA1 hb⟩

set_option maxRecDepth 100000 in
theorem reads (w : World) {H : Type} (enc : TypeId × Value → H) : ∃ places, DataW.whole enc Tryz.prog w Tryz.f3.params.toList Rows.claimsChecksSpec.vars false #[Value.agg #[.string ByteArray.empty, .string ByteArray.empty, .string ByteArray.empty, .string ByteArray.empty, .string ByteArray.empty, .string ByteArray.empty, .string ByteArray.empty, .string ByteArray.empty, .slice none 0 0, .slice none 0 0, .slice none 0 0, .int .i64 0, .int .i64 0, .int .i64 0, .int .i64 0, .int .i64 0], .agg #[.string ByteArray.empty, .string ByteArray.empty, .string ByteArray.empty, .string ByteArray.empty, .string ByteArray.empty, .string ByteArray.empty, .string ByteArray.empty, .string ByteArray.empty, .slice none 0 0, .slice none 0 0, .slice none 0 0, .int .i64 0, .int .i64 0, .int .i64 0, .int .i64 0, .int .i64 0]].toList 8 = some ([.agg [.lit (.string []), .lit (.string []), .lit (.string []), .lit (.string []), .lit (.string []), .lit (.string []), .lit (.string []), .lit (.string []), .nil, .nil, .nil, .lit (.int .i64 0), .lit (.int .i64 0), .lit (.int .i64 0), .lit (.int .i64 0), .lit (.int .i64 0)], .agg [.lit (.string []), .lit (.string []), .lit (.string []), .lit (.string []), .lit (.string []), .lit (.string []), .lit (.string []), .lit (.string []), .nil, .nil, .nil, .lit (.int .i64 0), .lit (.int .i64 0), .lit (.int .i64 0), .lit (.int .i64 0), .lit (.int .i64 0)]], [], places) :=
  ⟨[], by kernel_rfl⟩
theorem args_ok (w : World) : Input.okWideB Tryz.prog w 3 ⟨#[], #[.agg #[.string ByteArray.empty, .string ByteArray.empty, .string ByteArray.empty, .string ByteArray.empty, .string ByteArray.empty, .string ByteArray.empty, .string ByteArray.empty, .string ByteArray.empty, .slice none 0 0, .slice none 0 0, .slice none 0 0, .int .i64 0, .int .i64 0, .int .i64 0, .int .i64 0, .int .i64 0], .agg #[.string ByteArray.empty, .string ByteArray.empty, .string ByteArray.empty, .string ByteArray.empty, .string ByteArray.empty, .string ByteArray.empty, .string ByteArray.empty, .string ByteArray.empty, .slice none 0 0, .slice none 0 0, .slice none 0 0, .int .i64 0, .int .i64 0, .int .i64 0, .int .i64 0, .int .i64 0]], []⟩ = true := by kernel_rfl
set_option maxRecDepth 100000 in
theorem lifted (os : Os) (started : os.Started) (H : Type) (enc : TypeId × Value → H) (F : Stop.Interp) :
    ReturnsInHanded {} Tryz.checked os 3 .any ((OpenSpec.ofChange Rows.claimsChecksSpec).preRow enc Tryz.prog Tryz.f3 Rows.claimsChecksRow.domain false Rows.claimsChecksRow.laid) (((OpenSpec.ofChange Rows.claimsChecksSpec).at F).post enc Tryz.prog Tryz.f3 false true false false) := by
  obtain ⟨places, hx⟩ := reads _ enc
  refine returnsInHanded_of_row (C := Tryz.checked) (s := OpenSpec.ofChange Rows.claimsChecksSpec) own started (by kernel_rfl) Tryz.func3
    (witness_row_at (enc := enc) (C := Tryz.checked) false (World.laidAll Tryz.prog os laidList) #[.agg #[.string ByteArray.empty, .string ByteArray.empty, .string ByteArray.empty, .string ByteArray.empty, .string ByteArray.empty, .string ByteArray.empty, .string ByteArray.empty, .string ByteArray.empty, .slice none 0 0, .slice none 0 0, .slice none 0 0, .int .i64 0, .int .i64 0, .int .i64 0, .int .i64 0, .int .i64 0], .agg #[.string ByteArray.empty, .string ByteArray.empty, .string ByteArray.empty, .string ByteArray.empty, .string ByteArray.empty, .string ByteArray.empty, .string ByteArray.empty, .string ByteArray.empty, .slice none 0 0, .slice none 0 0, .slice none 0 0, .int .i64 0, .int .i64 0, .int .i64 0, .int .i64 0, .int .i64 0]] (World.laidAll_os _ _ _) (w_hv os _) (w_hr os _) (args_ok _)
      (OpenSpec.preRow_of_cond 8 hx (by kernel_rfl) (fun k hk => by cases hk) (by kernel_rfl) (w_laid os _))) ?_
  intro W base args ds gs before hval hW _ _ _ hL _ _
  exact contract H enc W base args ds gs before hval hW hL

theorem said : Rows.ClaimsChecksSaid :=
  OpenClaim.holds_of_cond 3 Tryz.f3 rfl rfl rfl rfl rfl rfl rfl ⟨rfl, rfl, rfl, rfl, rfl⟩ rfl rfl rfl rfl rfl (by kernel_rfl) Tryz.func3 (by kernel_rfl)
    (of_decide_eq_true (by kernel_rfl)) (by unfold Func.isWrapper; first | (rw [if_pos (by decide +kernel)]; kernel_rfl) | (rw [if_neg (by decide +kernel)]; exact ⟨rfl, rfl⟩))
    (fun os started H enc _ F => by rw [OpenClaim.pre_eq_preRow]; exact lifted os started H enc F)

theorem plain (f : FuncId) (fn : Func) (hf : Tryz.pinned.checked.prog.funcNamed Rows.claimsChecksRow.func = some f) (hfn : Tryz.pinned.checked.prog.funcs[f]? = some fn) :
    true = Tryz.pinned.checked.prog.looks [] ∧ ∀ (j : Nat) t, fn.params[j]? = some t → Tryz.pinned.checked.prog.wantsStandIn t = false := by
  obtain rfl : f = 3 := Option.some.inj ((show Tryz.prog.funcNamed Rows.claimsChecksRow.func = some 3 by kernel_rfl).symm.trans hf) |>.symm
  obtain rfl : fn = Tryz.f3 := (Option.some.inj (Tryz.func3.symm.trans hfn)).symm
  refine ⟨by kernel_rfl, fun j t ht => ?_⟩
  rw [Tryz.params3] at ht
  have hm : t ∈ [24, 24] := by simpa using Array.mem_of_getElem? ht
  have hall : ([24, 24].all fun u => !Tryz.prog.wantsStandIn u) = true := by kernel_rfl
  exact (show Tryz.prog.wantsStandIn t = false by simpa using List.all_eq_true.1 hall t hm)

theorem card : Rows.ClaimsChecksCardSaid :=
  Claim7.holds_tied_plain_at .later [] _ _ _ _ said (fun _ h => by cases h) (by kernel_rfl) (fun _ h => by cases h) claimsChecks_row_tie rfl ⟨rfl, rfl⟩ (by kernel_rfl) rfl plain (by kernel_rfl)
end Go.Proofs.YtpmikpijonccjaaGreatDoor.claimsChecks
