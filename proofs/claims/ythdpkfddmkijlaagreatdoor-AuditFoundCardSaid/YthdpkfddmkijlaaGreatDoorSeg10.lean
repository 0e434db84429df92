/- Joined: AudAwake. -/
import Derived.Test.YthdpkfddmkijlaaGreatDoorSeg9
import Derived.Test.YthdpkfddmkijlaaGreatDoorSeg7
/- The chapter's examples. -/
namespace Go.Proofs.YthdpkfddmkijlaaGreatDoor
open Go.RowKit

theorem two_new (w : World) (x y : Ev) : EvsAt (w.alloc (.cells #[.int .i64 x.time, .string x.tenant, .string x.actor, .string x.action, .string x.object, .int .i64 x.result, .int .i64 y.time, .string y.tenant, .string y.actor, .string y.action, .string y.object, .int .i64 y.result] 24)) (some ⟨w.heap.size, 0, none⟩) [x, y] := by
  intro i hi
  have hb := heap_alloc_new w (.cells #[.int .i64 x.time, .string x.tenant, .string x.actor, .string x.action, .string x.object, .int .i64 x.result, .int .i64 y.time, .string y.tenant, .string y.actor, .string y.action, .string y.object, .int .i64 y.result] 24 (0, 0))
  have hc : ∀ j, (w.alloc (.cells #[.int .i64 x.time, .string x.tenant, .string x.actor, .string x.action, .string x.object, .int .i64 x.result, .int .i64 y.time, .string y.tenant, .string y.actor, .string y.action, .string y.object, .int .i64 y.result] 24)).cell? ⟨w.heap.size, j, none⟩ = _ := fun j => cell_of_row _ _ j _ _ (0, 0) hb
  refine ⟨w.heap.size, 0, rfl, ?_⟩
  match i, hi with
  | 0, _ => exact ⟨hc 0, hc 1, hc 2, hc 3, hc 4, hc 5⟩
  | 1, _ => exact ⟨hc 6, hc 7, hc 8, hc 9, hc 10, hc 11⟩
theorem held_of {w w' : World} {p q b o : Nat} {C : ByteArray} (hb : Below w.heap.size w w') (hx : EvBox w p smp) (hz : EvBox w q smp) (hg : w.cell? ⟨b, o, none⟩ = some (.string C)) :
    w'.cell? ⟨p, 0, none⟩ = some (.int .i64 5) ∧ w'.cell? ⟨p, 1, none⟩ = some (.string ⟨#[116]⟩) ∧ w'.cell? ⟨p, 2, none⟩ = some (.string ⟨#[97, 110, 110]⟩) ∧ w'.cell? ⟨p, 3, none⟩ = some (.string ⟨#[108, 111, 103, 105, 110]⟩) ∧ w'.cell? ⟨p, 4, none⟩ = some (.string ⟨#[115, 49]⟩) ∧ w'.cell? ⟨p, 5, none⟩ = some (.int .i64 0) ∧
      w'.cell? ⟨q, 0, none⟩ = some (.int .i64 5) ∧ w'.cell? ⟨q, 1, none⟩ = some (.string ⟨#[116]⟩) ∧ w'.cell? ⟨q, 2, none⟩ = some (.string ⟨#[97, 110, 110]⟩) ∧ w'.cell? ⟨q, 3, none⟩ = some (.string ⟨#[108, 111, 103, 105, 110]⟩) ∧ w'.cell? ⟨q, 4, none⟩ = some (.string ⟨#[115, 49]⟩) ∧ w'.cell? ⟨q, 5, none⟩ = some (.int .i64 0) ∧ w'.cell? ⟨b, o, none⟩ = some (.string C) := by
  obtain ⟨a0, a1, a2, a3, a4, a5⟩ := (hx.below hb).cells
  obtain ⟨b0, b1, b2, b3, b4, b5⟩ := (hz.below hb).cells
  exact ⟨a0, a1, a2, a3, a4, a5, b0, b1, b2, b3, b4, b5, (hb.cell (World.block_lt_of_cell? _ _ hg)).trans hg⟩
theorem EvsAt.drew {w : World} {A : Option Addr} {l : List Ev} (h : EvsAt w A l) : EvsAt w.drew A l := h
theorem one_new (w : World) (x : Ev) : EvsAt (w.alloc (.cells #[.int .i64 x.time, .string x.tenant, .string x.actor, .string x.action, .string x.object, .int .i64 x.result] 24)) (some ⟨w.heap.size, 0, none⟩) [x] := by
  intro i hi
  have hb := heap_alloc_new w (.cells #[.int .i64 x.time, .string x.tenant, .string x.actor, .string x.action, .string x.object, .int .i64 x.result] 24 (0, 0))
  have hc : ∀ j, (w.alloc (.cells #[.int .i64 x.time, .string x.tenant, .string x.actor, .string x.action, .string x.object, .int .i64 x.result] 24)).cell? ⟨w.heap.size, j, none⟩ = _ := fun j => cell_of_row _ _ j _ _ (0, 0) hb
  refine ⟨w.heap.size, 0, rfl, ?_⟩
  match i, hi with
  | 0, _ => exact ⟨hc 0, hc 1, hc 2, hc 3, hc 4, hc 5⟩
set_option maxRecDepth 100000 in
theorem lmade_nil (w : World) : Calls Tryz.prog 61 #[.pointer none] w fun e w' => e = .returned (.bool false) ∧ w = w' := by
  go_enter Tryz.func61, Tryz.ntmps61
  go_wp2_with fail
  go_ret
  exact ⟨rfl, rfl⟩
set_option maxRecDepth 100000 in
theorem ladd_nil (x : Ev) (w : World) : Calls Tryz.prog 24 #[.pointer none, evV x] w fun e w' => e = .returned (.int .i64 1) ∧ Below w.heap.size w w' := by
  obtain ⟨x0, x1, x2, x3, x4, x5⟩ := x
  have HB0 : Hid (Below w.heap.size w (w.alloc (.cells #[.int .i64 x0, .string x1, .string x2, .string x3, .string x4, .int .i64 x5] 24))) := Lib.hid ((Below.refl _ _).alloc (Nat.le_refl _) _)
  show Calls Tryz.prog 24 #[.pointer none, .agg #[.int .i64 x0, .string x1, .string x2, .string x3, .string x4, .int .i64 x5]] w _
  go_enter Tryz.func24, Tryz.ntmps24
  go_wp2_with fail
  refine (lmade_nil _).mono ?_
  rintro e w1 ⟨rfl, rfl⟩
  go_wp2_with fail
  go_ret
  exact ⟨rfl, HB0.out⟩
set_option maxRecDepth 100000 in
theorem llen_nil (w : World) : Calls Tryz.prog 28 #[.pointer none] w fun e w' => e = .returned (.int .i64 0) ∧ w = w' := by
  go_enter Tryz.func28, Tryz.ntmps28
  go_wp2_with fail
  go_ret
  exact ⟨rfl, rfl⟩
theorem smp_in' {x : Ev} {l : List Ev} (h : x ∈ l) : (l = [smp, smp] ∨ l = [smp]) → EvIn x := by
  rintro (rfl | rfl) <;> simp at h <;> subst h <;> exact smp_in
theorem smp_all {x : Ev} (h : x ∈ [smp, smp]) : EvIn x := by
  simp at h; subst h; exact smp_in
set_option maxHeartbeats 8000000 in
set_option maxRecDepth 100000 in
theorem awake_any (w : World) (hd : DigOk w) (hp : PowOk w) (hE : ErrsOk w) :
    Calls Tryz.prog 11 #[] w fun e w' => e = .returned (.bool true) ∧ Below w.heap.size w w' := by
  go_enter Tryz.func11, Tryz.ntmps11
  go_wp2_with fail
  refine (sample_any _).mono ?_
  rintro e w1 ⟨rfl, hb1⟩
  have B1 := Lib.hid hb1
  clear hb1
  have HL := Lib.hid smp_line
  obtain ⟨S, HS⟩ : ∃ S, Hid (lineS smp = S) := ⟨_, Lib.hid rfl⟩
  have hSl : S = ⟨#[53, 124, 116, 124, 97, 110, 110, 124, 108, 111, 103, 105, 110, 124, 115, 49, 124, 48]⟩ := HS.out.symm.trans smp_line.2
  have HSL := Lib.hid hSl
  have hSt : S.toList = [53, 124, 116, 124, 97, 110, 110, 124, 108, 111, 103, 105, 110, 124, 115, 49, 124, 48] := by rw [hSl, Lib.toList_data]
  have q1 : (S.toList == [53, 124, 116, 124, 97, 110, 110, 124, 108, 111, 103, 105, 110, 124, 115, 49, 124, 48]) = true := by rw [hSt]; rfl
  have q2 : (S.toList != [53, 124, 116, 124, 97, 110, 110, 124, 108, 111, 103, 105, 110, 124, 115, 49, 124, 48]) = false := by rw [hSt]; rfl
  clear hSt
  have HSZ : Hid (S.size ≤ 20) := Lib.hid (by rw [hSl]; decide)
  clear hSl
  have HPS : Hid (parseS S = smp ∧ parseE S = 0) := Lib.hid (by
    have h := line_back smp_line.1
    rw [HS.out] at h
    exact ⟨h.2, (parse_ok h.1).2⟩)
  have HHD : Hid (firstE [smp, smp] = 0 ∧ headsS [smp, smp] = [chainS startS S, chainS (chainS startS S) S]) := Lib.hid (by rw [← HS.out]; exact smp_heads)
  obtain ⟨C1, HC1⟩ : ∃ C, Hid (chainS startS S = C) := ⟨_, Lib.hid rfl⟩
  obtain ⟨C2, HC2⟩ : ∃ C, Hid (chainS C1 S = C) := ⟨_, Lib.hid rfl⟩
  rw [HC1.out, HC2.out] at HHD
  have kg := ev_guard
  have kq : ∀ w, (Op.equalIn 10000 24 (.agg #[.int .i64 5, .string ⟨#[116]⟩, .string ⟨#[97, 110, 110]⟩, .string ⟨#[108, 111, 103, 105, 110]⟩, .string ⟨#[115, 49]⟩, .int .i64 0]) (.agg #[.int .i64 5, .string ⟨#[116]⟩, .string ⟨#[97, 110, 110]⟩, .string ⟨#[108, 111, 103, 105, 110]⟩, .string ⟨#[115, 49]⟩, .int .i64 0])).run Tryz.prog w = .ok true w := fun w => (ev_beq smp smp w).trans (by rw [decide_eq_true rfl])
  have hb2 : Below w1.heap.size w1 ((w1.alloc (.cells #[.int .i64 5, .string ⟨#[116]⟩, .string ⟨#[97, 110, 110]⟩, .string ⟨#[108, 111, 103, 105, 110]⟩, .string ⟨#[115, 49]⟩, .int .i64 0] 24)).alloc (.cells #[.int .i64 5, .string ⟨#[116]⟩, .string ⟨#[97, 110, 110]⟩, .string ⟨#[]⟩, .string ⟨#[115, 49]⟩, .int .i64 0] 24)) := ((Below.refl _ _).alloc (Nat.le_refl _) _).alloc (by simp) _
  have B2 := Lib.hid (bthen B1.out hb2)
  have X2 : Hid (EvBox ((w1.alloc (.cells #[.int .i64 5, .string ⟨#[116]⟩, .string ⟨#[97, 110, 110]⟩, .string ⟨#[108, 111, 103, 105, 110]⟩, .string ⟨#[115, 49]⟩, .int .i64 0] 24)).alloc (.cells #[.int .i64 5, .string ⟨#[116]⟩, .string ⟨#[97, 110, 110]⟩, .string ⟨#[]⟩, .string ⟨#[115, 49]⟩, .int .i64 0] 24)) w1.heap.size smp) := Lib.hid ((EvBox.new w1 smp).below ((Below.refl _ _).alloc (Nat.le_refl _) _))
  have Y2 : Hid (EvBox ((w1.alloc (.cells #[.int .i64 5, .string ⟨#[116]⟩, .string ⟨#[97, 110, 110]⟩, .string ⟨#[108, 111, 103, 105, 110]⟩, .string ⟨#[115, 49]⟩, .int .i64 0] 24)).alloc (.cells #[.int .i64 5, .string ⟨#[116]⟩, .string ⟨#[97, 110, 110]⟩, .string ⟨#[]⟩, .string ⟨#[115, 49]⟩, .int .i64 0] 24)) (w1.heap.size + 1) smpY) := Lib.hid (by
    have h := EvBox.new (w1.alloc (.cells #[.int .i64 5, .string ⟨#[116]⟩, .string ⟨#[97, 110, 110]⟩, .string ⟨#[108, 111, 103, 105, 110]⟩, .string ⟨#[115, 49]⟩, .int .i64 0] 24)) smpY
    rwa [World.size_alloc] at h)
  clear hb2
  simp only [evV, smp]
  go_wp2_with fail
  refine (line_any smp _ smp_in (hp.below B2.out)).mono ?_
  rintro e w3 ⟨rfl, hb3⟩
  rw [HS.out, HL.out.1]
  have B3 := Lib.hid (bthen B2.out hb3)
  have X3 := Lib.hid (X2.out.below hb3)
  have Y3 := Lib.hid (Y2.out.below hb3)
  clear hb3
  go_wp2_with fail
  refine (parse_any S _ (by have := HSZ.out; omega) (hp.below B3.out) (hE.below B3.out)).mono ?_
  rintro e w4 ⟨rfl, hb4⟩
  rw [HPS.out.1, HPS.out.2]
  have B4 := Lib.hid (bthen B3.out hb4)
  have X4 := Lib.hid (X3.out.below hb4)
  have Y4 := Lib.hid (Y3.out.below hb4)
  clear hb4
  obtain ⟨y0, y1, y2, y3, y4, y5⟩ := Y4.out.cells
  simp only [smpY] at y0 y1 y2 y3 y4 y5
  simp only [evV, smp]
  have hb5 : Below w4.heap.size w4 (w4.alloc (.cells #[.int .i64 5, .string ⟨#[116]⟩, .string ⟨#[97, 110, 110]⟩, .string ⟨#[108, 111, 103, 105, 110]⟩, .string ⟨#[115, 49]⟩, .int .i64 0] 24)) := (Below.refl _ _).alloc (Nat.le_refl _) _
  have B5 := Lib.hid (bthen B4.out hb5)
  have X5 := Lib.hid (X4.out.below hb5)
  have Y5 := Lib.hid (Y4.out.below hb5)
  have Z5 := Lib.hid (EvBox.new w4 smp)
  clear hb5
  have hyl := row_lt Y4.out
  go_wp2_with fail
  refine (line_any smpY _ smpY_in (hp.below B5.out)).mono ?_
  rintro e w6 ⟨rfl, hb6⟩
  rw [smp_bad]
  have B6 := Lib.hid (bthen B5.out hb6)
  have X6 : Hid (EvBox w6 w1.heap.size smp) := Lib.hid (X5.out.below hb6)
  have Y6 : Hid (EvBox w6 (w1.heap.size + 1) smpY) := Lib.hid (Y5.out.below hb6)
  have Z6 : Hid (EvBox w6 w4.heap.size smp) := Lib.hid (Z5.out.below hb6)
  clear hb6 y0 y1 y2 y3 y4 y5 hyl
  obtain ⟨x0, x1, x2, x3, x4, x5⟩ := X6.out.cells
  simp only [smp] at x0 x1 x2 x3 x4 x5
  go_wp2_with fail
  refine (heads_any [smp, smp] (some ⟨w6.heap.size, 0, none⟩) 2 _ (hd.below (B6.out.alloc B6.out.size _)) (hp.below (B6.out.alloc B6.out.size _)) (two_new w6 smp smp) (fun x hx => smp_all hx) (by decide)).mono ?_
  rintro e w7 ⟨hr7, hb7⟩
  rw [HHD.out.1, HHD.out.2] at hr7
  obtain ⟨A9, c9, rfl, hs9, _, hc9⟩ := hr7
  have hb67 : Below w6.heap.size w6 w7 := bthen ((Below.refl _ _).alloc (Nat.le_refl _) _) hb7
  have B7 := Lib.hid (bthen B6.out hb67)
  have X7 : Hid (EvBox w7 w1.heap.size smp) := Lib.hid (X6.out.below hb67)
  have Y7 : Hid (EvBox w7 (w1.heap.size + 1) smpY) := Lib.hid (Y6.out.below hb67)
  have Z7 : Hid (EvBox w7 w4.heap.size smp) := Lib.hid (Z6.out.below hb67)
  have S7 := Lib.hid hs9
  obtain ⟨b9, o9, hA9, g0⟩ := hs9 0 (by simp)
  subst hA9
  have g0' : w7.cell? ⟨b9, o9, none⟩ = some (.string C1) := g0
  clear hb7 hb67 hs9 x0 x1 x2 x3 x4 x5 g0
  obtain ⟨x0, x1, x2, x3, x4, x5⟩ := X7.out.cells
  obtain ⟨z0, z1, z2, z3, z4, z5⟩ := Z7.out.cells
  simp only [smp] at x0 x1 x2 x3 x4 x5 z0 z1 z2 z3 z4 z5
  go_wp2_with fail
  have c1s : (C1.toList == C1.toList) = true := by simp
  have c1n : (C1.toList != C1.toList) = false := by simp
  have HK7 : Hid (w7.cell? ⟨w1.heap.size, 0, none⟩ = some (.int .i64 5) ∧ w7.cell? ⟨w1.heap.size, 1, none⟩ = some (.string ⟨#[116]⟩) ∧ w7.cell? ⟨w1.heap.size, 2, none⟩ = some (.string ⟨#[97, 110, 110]⟩) ∧ w7.cell? ⟨w1.heap.size, 3, none⟩ = some (.string ⟨#[108, 111, 103, 105, 110]⟩) ∧ w7.cell? ⟨w1.heap.size, 4, none⟩ = some (.string ⟨#[115, 49]⟩) ∧ w7.cell? ⟨w1.heap.size, 5, none⟩ = some (.int .i64 0) ∧ w7.cell? ⟨w4.heap.size, 0, none⟩ = some (.int .i64 5) ∧ w7.cell? ⟨w4.heap.size, 1, none⟩ = some (.string ⟨#[116]⟩) ∧ w7.cell? ⟨w4.heap.size, 2, none⟩ = some (.string ⟨#[97, 110, 110]⟩) ∧ w7.cell? ⟨w4.heap.size, 3, none⟩ = some (.string ⟨#[108, 111, 103, 105, 110]⟩) ∧ w7.cell? ⟨w4.heap.size, 4, none⟩ = some (.string ⟨#[115, 49]⟩) ∧ w7.cell? ⟨w4.heap.size, 5, none⟩ = some (.int .i64 0) ∧ w7.cell? ⟨b9, o9, none⟩ = some (.string C1)) := Lib.hid ⟨x0, x1, x2, x3, x4, x5, z0, z1, z2, z3, z4, z5, g0'⟩
  have HKB : Hid (∀ w', Below w7.heap.size w7 w' → w'.cell? ⟨w1.heap.size, 0, none⟩ = some (.int .i64 5) ∧ w'.cell? ⟨w1.heap.size, 1, none⟩ = some (.string ⟨#[116]⟩) ∧ w'.cell? ⟨w1.heap.size, 2, none⟩ = some (.string ⟨#[97, 110, 110]⟩) ∧ w'.cell? ⟨w1.heap.size, 3, none⟩ = some (.string ⟨#[108, 111, 103, 105, 110]⟩) ∧ w'.cell? ⟨w1.heap.size, 4, none⟩ = some (.string ⟨#[115, 49]⟩) ∧ w'.cell? ⟨w1.heap.size, 5, none⟩ = some (.int .i64 0) ∧ w'.cell? ⟨w4.heap.size, 0, none⟩ = some (.int .i64 5) ∧ w'.cell? ⟨w4.heap.size, 1, none⟩ = some (.string ⟨#[116]⟩) ∧ w'.cell? ⟨w4.heap.size, 2, none⟩ = some (.string ⟨#[97, 110, 110]⟩) ∧ w'.cell? ⟨w4.heap.size, 3, none⟩ = some (.string ⟨#[108, 111, 103, 105, 110]⟩) ∧ w'.cell? ⟨w4.heap.size, 4, none⟩ = some (.string ⟨#[115, 49]⟩) ∧ w'.cell? ⟨w4.heap.size, 5, none⟩ = some (.int .i64 0) ∧ w'.cell? ⟨b9, o9, none⟩ = some (.string C1)) := Lib.hid (fun w' hb => held_of hb X7.out Z7.out g0')
  go_region_held3 (fun w' => w'.cell? ⟨w1.heap.size, 0, none⟩ = some (.int .i64 5) ∧ w'.cell? ⟨w1.heap.size, 1, none⟩ = some (.string ⟨#[116]⟩) ∧ w'.cell? ⟨w1.heap.size, 2, none⟩ = some (.string ⟨#[97, 110, 110]⟩) ∧ w'.cell? ⟨w1.heap.size, 3, none⟩ = some (.string ⟨#[108, 111, 103, 105, 110]⟩) ∧ w'.cell? ⟨w1.heap.size, 4, none⟩ = some (.string ⟨#[115, 49]⟩) ∧ w'.cell? ⟨w1.heap.size, 5, none⟩ = some (.int .i64 0) ∧ w'.cell? ⟨w4.heap.size, 0, none⟩ = some (.int .i64 5) ∧ w'.cell? ⟨w4.heap.size, 1, none⟩ = some (.string ⟨#[116]⟩) ∧ w'.cell? ⟨w4.heap.size, 2, none⟩ = some (.string ⟨#[97, 110, 110]⟩) ∧ w'.cell? ⟨w4.heap.size, 3, none⟩ = some (.string ⟨#[108, 111, 103, 105, 110]⟩) ∧ w'.cell? ⟨w4.heap.size, 4, none⟩ = some (.string ⟨#[115, 49]⟩) ∧ w'.cell? ⟨w4.heap.size, 5, none⟩ = some (.int .i64 0) ∧ w'.cell? ⟨b9, o9, none⟩ = some (.string C1))
    (first | go_keep | (exact HK7.out) | (exact HKB.out _ ((Below.refl _ _).drew.trans hb8)) | (exact HKB.out _ (((Below.refl _ _).drew.trans hb8).trans (hb9.mono hb8.size))))
    (first
      | (go_at_call 39; refine (text_any ⟨#[]⟩ _ ?_ (by decide)).mono ?_; exact (hd.below B7.out).drew; rintro e w8 ⟨rfl, hb8⟩; rw [show textS ⟨#[]⟩ = startS from rfl])
      | (go_at_call 44; refine (chain_any startS S _ ?_ ?_ ?_).mono ?_; exact (hd.below B7.out).drew.below hb8; (rw [startS_size]; decide); (have := HSZ.out; omega); rintro e w9 ⟨rfl, hb9⟩; rw [HC1.out]))
  have BH8 := Lib.hid (((Below.refl w7.heap.size w7).drew.trans hb8).trans (hb9.mono hb8.size))
  have B9 := Lib.hid (bthen B7.out BH8.out)
  have X9 : Hid (EvBox w9 w1.heap.size smp) := Lib.hid (X7.out.below BH8.out)
  have Y9 : Hid (EvBox w9 (w1.heap.size + 1) smpY) := Lib.hid (Y7.out.below BH8.out)
  have S9 : Hid (Strs w9 (some ⟨b9, o9, none⟩) [C1, C2]) := Lib.hid (S7.out.below BH8.out)
  have hd9 := hd.below B9.out
  have hp9 := hp.below B9.out
  obtain ⟨bq, oq, hAq, g1⟩ := S9.out 1 (by simp)
  injection hAq with hAq
  injection hAq with hAq1 hAq2
  subst hAq1
  subst hAq2
  have G9 : Hid (w9.cell? ⟨b9, o9 + 1, none⟩ = some (.string C2)) := Lib.hid g1
  clear g1
  clear hb8 hb9 x0 x1 x2 x3 x4 x5 z0 z1 z2 z3 z4 z5 g0' kq kg c1s c1n HK7 HKB
  have HMS : Hid ([smp, smp].map lineS = [S, S]) := Lib.hid (by simp [HS.out])
  have HA1 : Hid (addE [] smp = [smp]) := Lib.hid (by rw [addE, if_pos HL.out.1]; rfl)
  have HA2 : Hid (addE [smp] smpY = [smp]) := Lib.hid (by rw [addE, if_neg (by rw [smp_bad]; decide)])
  have HA3 : Hid (addE [smp] smp = [smp, smp]) := Lib.hid (by rw [addE, if_pos HL.out.1]; rfl)
  go_wp2_with fail
  refine (lnew_any _ hd9).mono ?_
  rintro e w10 ⟨⟨g, vL, vS, rfl, hl10⟩, hb10⟩
  have L10 := Lib.hid hl10
  have N10 := Lib.hid hb10
  clear hl10 hb10
  obtain ⟨x0, x1, x2, x3, x4, x5⟩ := (X9.out.below N10.out).cells
  simp only [smp] at x0 x1 x2 x3 x4 x5
  have ss : (startS.toList == startS.toList) = true := by simp
  have sn : (startS.toList != startS.toList) = false := by simp
  have HHE : Hid (headF startS [] = startS) := Lib.hid rfl
  go_wp2_with fail
  refine (lhead_any _ _ g vL vS [] L10.out).mono ?_
  rintro e wsame ⟨rfl, rfl⟩
  rw [HHE.out]
  go_wp2_with fail
  refine (text_any ⟨#[]⟩ _ (hd9.below N10.out) (by decide)).mono ?_
  rintro e w11 ⟨rfl, hb11⟩
  rw [show textS ⟨#[]⟩ = startS from rfl]
  have N11 := Lib.hid (bthen N10.out hb11)
  have L11 := Lib.hid (L10.out.below hb11)
  clear hb11 x0 x1 x2 x3 x4 x5
  obtain ⟨x0, x1, x2, x3, x4, x5⟩ := (X9.out.below N11.out).cells
  simp only [smp] at x0 x1 x2 x3 x4 x5
  go_wp2_with fail
  refine (ladd_any smp w9 _ smp_in hd9 hp9 N11.out g vL vS [] L11.out (by decide)).mono ?_
  rintro e w12 ⟨rfl, vL12, vS12, hl12, hk12, hg12⟩
  rw [HL.out.1]
  rw [HA1.out] at hl12
  have N12 := Lib.hid (N11.out.trans (hk12.below N11.out.size (fun i hi => (L11.out.blk hi).1)))
  have L12 := Lib.hid hl12
  clear hl12 hk12 hg12 x0 x1 x2 x3 x4 x5 ss sn
  obtain ⟨y0, y1, y2, y3, y4, y5⟩ := (Y9.out.below N12.out).cells
  simp only [smpY] at y0 y1 y2 y3 y4 y5
  go_wp2_with fail
  refine (ladd_any smpY w9 _ smpY_in hd9 hp9 N12.out g vL12 vS12 [smp] L12.out (by decide)).mono ?_
  rintro e w13 ⟨rfl, vL13, vS13, hl13, hk13, hg13⟩
  rw [smp_bad]
  rw [HA2.out] at hl13
  have N13 := Lib.hid (N12.out.trans (hk13.below N12.out.size (fun i hi => (L12.out.blk hi).1)))
  have L13 := Lib.hid hl13
  clear hl13 hk13 hg13 y0 y1 y2 y3 y4 y5
  obtain ⟨x0, x1, x2, x3, x4, x5⟩ := (X9.out.below N13.out).cells
  simp only [smp] at x0 x1 x2 x3 x4 x5
  go_wp2_with fail
  refine (ladd_any smp w9 _ smp_in hd9 hp9 N13.out g vL13 vS13 [smp] L13.out (by decide)).mono ?_
  rintro e w14 ⟨rfl, vL14, vS14, hl14, hk14, hg14⟩
  rw [HL.out.1]
  rw [HA3.out] at hl14
  have N14 := Lib.hid (N13.out.trans (hk14.below N13.out.size (fun i hi => (L13.out.blk hi).1)))
  have L14 := Lib.hid hl14
  clear hl14 hk14 hg14 x0 x1 x2 x3 x4 x5
  go_wp2_with fail
  refine (lprove_any 1 _ (hd9.below N14.out) _ g vL14 vS14 [smp, smp] L14.out (by decide)).mono ?_
  rintro e w15 ⟨hr15, hb15⟩
  rw [HMS.out, (smp_paths S).1] at hr15
  obtain ⟨A15, c15, rfl, hs15, _, hc15⟩ := hr15
  have N15 := Lib.hid (bthen N14.out hb15)
  have L15 := Lib.hid (L14.out.below hb15)
  have S15 := Lib.hid hs15
  clear hb15 hs15
  go_wp2_with fail
  refine (lprove_any 2 _ (hd9.below N15.out) _ g vL14 vS14 [smp, smp] L15.out (by decide)).mono ?_
  rintro e w16 ⟨hr16, hb16⟩
  rw [HMS.out, (smp_paths S).2] at hr16
  obtain ⟨A16, c16, rfl, _, _, _⟩ := hr16
  have N16 := Lib.hid (bthen N15.out hb16)
  have L16 := Lib.hid (L15.out.below hb16)
  have S16 := Lib.hid (S15.out.below hb16)
  clear hb16
  obtain ⟨x0, x1, x2, x3, x4, x5⟩ := (X9.out.below N16.out).cells
  simp only [smp] at x0 x1 x2 x3 x4 x5
  go_wp2_with fail
  simp only [List.append]
  have HV : Hid (verS [smp, smp] [C1, C2] = -1 ∧ verS [smp, smp] [C1] = 1 ∧ verS [smp] [C1, C2] = 1) := Lib.hid (by
    have h := smp_verify
    rw [HS.out, HC1.out, HC2.out] at h
    exact h)
  have c2s : (C2.toList == C2.toList) = true := by simp
  have HH2 : Hid (headF startS [smp, smp] = C2) := Lib.hid (by rw [smp_head, HS.out, HC1.out, HC2.out])
  have HPV := Lib.hid (smp_proves S)
  have HPLn : Hid ((pathS [S, S] 1).length ≤ 1000000) := Lib.hid (pathS_length [S, S] 1 (by simp))
  have HTT := Lib.hid smp_tenants
  have HKB : Hid (∀ w', Below w9.heap.size w9 w' → w'.cell? ⟨w1.heap.size, 0, none⟩ = some (.int .i64 5) ∧ w'.cell? ⟨w1.heap.size, 1, none⟩ = some (.string ⟨#[116]⟩) ∧ w'.cell? ⟨w1.heap.size, 2, none⟩ = some (.string ⟨#[97, 110, 110]⟩) ∧ w'.cell? ⟨w1.heap.size, 3, none⟩ = some (.string ⟨#[108, 111, 103, 105, 110]⟩) ∧ w'.cell? ⟨w1.heap.size, 4, none⟩ = some (.string ⟨#[115, 49]⟩) ∧ w'.cell? ⟨w1.heap.size, 5, none⟩ = some (.int .i64 0) ∧ w'.cell? ⟨b9, o9 + 1, none⟩ = some (.string C2)) := Lib.hid (fun w' hb => by
    obtain ⟨a0, a1, a2, a3, a4, a5⟩ := (X9.out.below hb).cells
    exact ⟨a0, a1, a2, a3, a4, a5, (hb.cell (World.block_lt_of_cell? _ _ G9.out)).trans G9.out⟩)
  have HK16 := Lib.hid (HKB.out _ N16.out.drew)
  have hcc : 2 ≤ c9 := by simpa using hc9
  have i9 : (1 : Int) ≤ (c9 : Int) := by omega
  have i8 : 1 ≤ c9 := by omega
  have g16 := (N16.out.cell (World.block_lt_of_cell? _ _ G9.out)).trans G9.out
  go_region_held3 (fun w' => w'.cell? ⟨w1.heap.size, 0, none⟩ = some (.int .i64 5) ∧ w'.cell? ⟨w1.heap.size, 1, none⟩ = some (.string ⟨#[116]⟩) ∧ w'.cell? ⟨w1.heap.size, 2, none⟩ = some (.string ⟨#[97, 110, 110]⟩) ∧ w'.cell? ⟨w1.heap.size, 3, none⟩ = some (.string ⟨#[108, 111, 103, 105, 110]⟩) ∧ w'.cell? ⟨w1.heap.size, 4, none⟩ = some (.string ⟨#[115, 49]⟩) ∧ w'.cell? ⟨w1.heap.size, 5, none⟩ = some (.int .i64 0) ∧ w'.cell? ⟨b9, o9 + 1, none⟩ = some (.string C2))
    (first | go_keep | (exact HK16.out) | (exact HKB.out _ N17.out) | (exact HKB.out _ N18.out) | (exact HKB.out _ N19.out) | (exact HKB.out _ N20.out) | (exact HKB.out _ N21.out) | (exact HKB.out _ N22.out) | (exact HKB.out _ N23.out) | (exact HKB.out _ N24.out))
    (first
      | (go_at_call 20; refine (verify_any [smp] (some ⟨w18.heap.size, 0, none⟩) 1 [C1, C2] (some ⟨b9, o9, none⟩) c9 _ ?_ ?_ ?_ ?_ ?_ ?_).mono ?_; exact (hd9.below (N18.out.alloc N18.out.size _)); exact hp9.below (N18.out.alloc N18.out.size _); exact (one_new w18 smp); exact (fun x hx => smp_in' hx (by first | exact .inl rfl | exact .inr rfl)); exact (S9.out.below (N18.out.alloc N18.out.size _)); decide; rintro e w19 ⟨rfl, hb19⟩; rw [HV.out.2.2]; have N19 : Hid (Below w9.heap.size w9 w19) := Lib.hid (bthen ((N18.out.alloc N18.out.size _)) hb19); have M19 : Hid (Below w16.heap.size w16 w19) := Lib.hid (bthen M18.out (bthen ((Below.refl w18.heap.size w18).alloc (Nat.le_refl _) _) hb19)); clear hb19)
      | (go_at_call 20; refine (verify_any [smp, smp] (some ⟨w17.heap.size, 0, none⟩) 2 [C1] (some ⟨b9, o9, none⟩) c9 _ ?_ ?_ ?_ ?_ ?_ ?_).mono ?_; exact (hd9.below (N17.out.alloc N17.out.size _)); exact hp9.below (N17.out.alloc N17.out.size _); exact (two_new w17 smp smp); exact (fun x hx => smp_in' hx (by first | exact .inl rfl | exact .inr rfl)); exact (strs_take (S9.out.below (N17.out.alloc N17.out.size _)) 1); decide; rintro e w18 ⟨rfl, hb18⟩; rw [HV.out.2.1]; have N18 : Hid (Below w9.heap.size w9 w18) := Lib.hid (bthen ((N17.out.alloc N17.out.size _)) hb18); have M18 : Hid (Below w16.heap.size w16 w18) := Lib.hid (bthen M17.out (bthen ((Below.refl w17.heap.size w17).alloc (Nat.le_refl _) _) hb18)); clear hb18)
      | (go_at_call 20; refine (verify_any [smp, smp] (some ⟨w16.heap.size, 0, none⟩) 2 [C1, C2] (some ⟨b9, o9, none⟩) c9 _ ?_ ?_ ?_ ?_ ?_ ?_).mono ?_; exact (hd9.below (N16.out.alloc N16.out.size _)).drew; exact pow_drew (hp9.below (N16.out.alloc N16.out.size _)); exact (two_new w16 smp smp).drew; exact (fun x hx => smp_in' hx (by first | exact .inl rfl | exact .inr rfl)); exact (S9.out.below (N16.out.alloc N16.out.size _)).drew; decide; rintro e w17 ⟨rfl, hb17⟩; rw [HV.out.1]; have N17 : Hid (Below w9.heap.size w9 w17) := Lib.hid (bthen ((N16.out.alloc N16.out.size _).drew) hb17); have M17 : Hid (Below w16.heap.size w16 w17) := Lib.hid (bthen (((Below.refl w16.heap.size w16).alloc (Nat.le_refl _) _).drew) hb17); clear hb17)
      | (go_at_call 28; refine (llen_nil _).mono ?_; rintro e wsame ⟨rfl, rfl⟩)
      | (go_at_call 24; refine (ladd_nil smp _).mono ?_; rintro e w24 ⟨rfl, hb24⟩; have N24 : Hid (Below w9.heap.size w9 w24) := Lib.hid (bthen N23.out hb24); clear hb24)
      | (go_at_call_of 35 (Value.string ⟨#[117]⟩); refine (levents_any ⟨#[117]⟩ _ w9.heap.size g vL14 vS14 [smp, smp] ?_ ?_).mono ?_; exact L16.out.below M22.out; decide; rintro e w23 ⟨⟨A23, c23, rfl, _, _, _⟩, hb23⟩; rw [HTT.out.2]; have N23 : Hid (Below w9.heap.size w9 w23) := Lib.hid (bthen N22.out hb23); clear hb23)
      | (go_at_call_of 35 (Value.string ⟨#[116]⟩); refine (levents_any ⟨#[116]⟩ _ w9.heap.size g vL14 vS14 [smp, smp] ?_ ?_).mono ?_; exact L16.out.below M21.out; decide; rintro e w22 ⟨⟨A22, c22, rfl, _, _, _⟩, hb22⟩; rw [HTT.out.1]; have N22 : Hid (Below w9.heap.size w9 w22) := Lib.hid (bthen N21.out hb22); have M22 : Hid (Below w16.heap.size w16 w22) := Lib.hid (bthen M21.out hb22); clear hb22)
      | (go_at_call 42; refine (proves_any (rootS [S, S]) S 1 2 (pathS [S, S] 1) A15 c15 _ ?_ ?_ ?_ ?_ ?_ ?_ ?_).mono ?_; exact hd9.below N20.out; exact S16.out.below M20.out; exact hc15; exact HPLn.out; exact pathS_sizes _ _; (have := HSZ.out; omega); decide; rintro e w21 ⟨rfl, hb21⟩; rw [HPV.out]; have N21 : Hid (Below w9.heap.size w9 w21) := Lib.hid (bthen N20.out hb21); have M21 : Hid (Below w16.heap.size w16 w21) := Lib.hid (bthen M20.out hb21); clear hb21)
      | (go_at_call 37; refine (lroot_any _ ?_ w9.heap.size g vL14 vS14 [smp, smp] ?_ ?_).mono ?_; exact hd9.below N19.out; exact L16.out.below M19.out; decide; rintro e w20 ⟨rfl, hb20⟩; rw [HMS.out]; have N20 : Hid (Below w9.heap.size w9 w20) := Lib.hid (bthen N19.out hb20); have M20 : Hid (Below w16.heap.size w16 w20) := Lib.hid (bthen M19.out hb20); clear hb20)
      | (go_at_call 26; refine (lhead_any _ w9.heap.size g vL14 vS14 [smp, smp] ?_).mono ?_; exact L16.out.below M19.out; rintro e wsame ⟨rfl, rfl⟩; rw [HH2.out])
      | fail)
  all_goals
    have BZ := Lib.hid (bthen B9.out N24.out)
    clear N24
    go_wp2_with fail
    go_ret
    exact ⟨rfl, BZ.out⟩
end Go.Proofs.YthdpkfddmkijlaaGreatDoor

