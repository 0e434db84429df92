/- ClaimsAllows: for every claims and every expectation the law answers true and leaves its arguments alone; no condition. -/
import Derived.Lay
import Derived.Test.YtpmikpijonccjaaGreatDoorCards
import Derived.Test.YtpmikpijonccjaaGreatDoorTie
import Derived.Test.YtpmikpijonccjaaGreatDoorSeg4
import Derived.Test.YtpmikpijonccjaaGreatDoorSeg10
import Derived.Test.YtpmikpijonccjaaGreatDoorSeg9
import Derived.Test.YtpmikpijonccjaaGreatDoorSeg12
namespace Go.Proofs.YtpmikpijonccjaaGreatDoor.claimsAllows
open Go.ChangeShapes Go.WideShapes Go.ChangeAt Go.RowKit
open Go.ChangeMaps (open_string)


theorem exCells {w : World} {b : Nat} {xk xi xa xt : ByteArray} {xn xs : Int} (h : ExBox w b ⟨xk, xi, xa, xt, xn, xs⟩) : w.cell? ⟨b, 0, none⟩ = some (.string xk) ∧ w.cell? ⟨b, 1, none⟩ = some (.string xi) ∧ w.cell? ⟨b, 2, none⟩ = some (.string xa) ∧ w.cell? ⟨b, 3, none⟩ = some (.string xt) ∧ w.cell? ⟨b, 4, none⟩ = some (.int .i64 xn) ∧ w.cell? ⟨b, 5, none⟩ = some (.int .i64 xs) :=
  ⟨cell_of_row w b 0 _ _ (0, 0) h, cell_of_row w b 1 _ _ (0, 0) h, cell_of_row w b 2 _ _ (0, 0) h, cell_of_row w b 3 _ _ (0, 0) h, cell_of_row w b 4 _ _ (0, 0) h, cell_of_row w b 5 _ _ (0, 0) h⟩
set_option linter.unusedSimpArgs false in
set_option maxHeartbeats 8000000 in
set_option maxRecDepth 100000 in
theorem walk (c : Cl) (x : Ex) (p : P3) (w : World) (hk : KeysOk w) (hp : PowOk w) (hE : ErrsOk w) (hc : ClAt w c p) (ic : ClIn c p) :
    Calls Tryz.prog 5 #[clV c p, exV x] w fun e w' => e = .returned (.bool true) ∧ Below w.heap.size w w' := by
  obtain ⟨xk, xi, xa, xt, xn, xs⟩ := x
  show Calls Tryz.prog 5 #[clV c p, .agg #[.string xk, .string xi, .string xa, .string xt, .int .i64 xn, .int .i64 xs]] w _
  have B1 : Hid (Below w.heap.size w ((w.alloc (clO c p)).alloc (.cells #[.string xk, .string xi, .string xa, .string xt, .int .i64 xn, .int .i64 xs] 36))) := Lib.hid (((Below.refl _ _).alloc (Nat.le_refl _) _).alloc (by simp) _)
  have X1 : Hid (ClBox ((w.alloc (clO c p)).alloc (.cells #[.string xk, .string xi, .string xa, .string xt, .int .i64 xn, .int .i64 xs] 36)) w.heap.size c p) := Lib.hid ((ClBox.new w c p).below ((Below.refl _ _).alloc (Nat.le_refl _) _))
  have Y1 : Hid (ExBox ((w.alloc (clO c p)).alloc (.cells #[.string xk, .string xi, .string xa, .string xt, .int .i64 xn, .int .i64 xs] 36)) (w.heap.size + 1) ⟨xk, xi, xa, xt, xn, xs⟩) := Lib.hid (by have h := ExBox.new (w.alloc (clO c p)) ⟨xk, xi, xa, xt, xn, xs⟩; rwa [show (w.alloc (clO c p)).heap.size = w.heap.size + 1 by simp] at h)
  have A1 := Lib.hid (hc.below B1.out)
  have IC := Lib.hid ic
  clear hc ic
  have hsz : (w.alloc (clO c p)).heap.size = w.heap.size + 1 := by simp
  by_cases hl : lightC c = true
  · have HL := Lib.hid hl
    clear hl
    by_cases hf : fewB [xk, xi, xa, xt] = true
    · have HF := Lib.hid hf
      clear hf
      obtain ⟨E, HE⟩ : ∃ E, Hid (allowE c ⟨xk, xi, xa, xt, xn, xs⟩ = E) := ⟨_, Lib.hid rfl⟩
      have een : (E == E) = true := by simp
      go_enter Tryz.func5, Tryz.ntmps5
      go_wp2_with (first | (refine box_cl rfl _ rfl _ rfl c p rfl ?_) | (refine load_cl rfl _ rfl _ rfl w.heap.size rfl c p X1 ?_) | fail)
      refine (light25_any c p _ A1.out IC.out.m1 IC.out.m2 IC.out.m3).mono ?_
      rintro e w2 ⟨rfl, hb2⟩
      rw [HL.out]
      have X2 := Lib.hid (X1.out.below hb2)
      have Y2 := Lib.hid (Y1.out.below hb2)
      have A2 := Lib.hid (A1.out.below hb2)
      have B2 := Lib.hid (bthen B1.out hb2)
      clear hb2
      have S2 : Hid (Strs (w2.alloc (.cells #[.string xk, .string xi, .string xa, .string xt] 9)) (some ⟨w2.heap.size, 0, none⟩) [xk, xi, xa, xt]) := Lib.hid (strs_row (l := [xk, xi, xa, xt]) (heap_alloc_new w2 _) (fun j hj => by
        have : j < 4 := hj
        rcases j with _|_|_|_|j <;> first | omega | rfl))
      have BA : Below w2.heap.size w2 (w2.alloc (.cells #[.string xk, .string xi, .string xa, .string xt] 9)) := (Below.refl _ _).alloc (Nat.le_refl _) _
      obtain ⟨e0, e1, e2, e3, _, _⟩ := exCells Y2.out
      go_wp2_with fail
      refine (few25_any [xk, xi, xa, xt] (some ⟨w2.heap.size, 0, none⟩) 4 _ S2.out (by show 4 ≤ _; omega)).mono ?_
      rintro e wsame ⟨rfl, rfl⟩
      clear e0 e1 e2 e3
      rw [HF.out]
      obtain ⟨w3, HW3⟩ : ∃ W, Hid (w2.alloc (.cells #[.string xk, .string xi, .string xa, .string xt] 9) = W) := ⟨_, Lib.hid rfl⟩
      have BD : Below w2.heap.size w2 (w2.alloc (.cells #[.string xk, .string xi, .string xa, .string xt] 9)).drew := BA.drew
      have X3 := Lib.hid (X2.out.below BD)
      have Y3 := Lib.hid (Y2.out.below BD)
      have A3 := Lib.hid (A2.out.below BD)
      have B3 := Lib.hid (bthen B2.out BD)
      rw [HW3.out] at X3 Y3 A3 B3
      rw [HW3.out]
      clear BD BA X1 Y1 A1 B1 X2 Y2 A2 B2 S2 HW3
      go_wp2_with fail
      refine wp_region_held_drew (S := fun w' => ClBox w' w.heap.size c p ∧ ExBox w' (w.heap.size + 1) ⟨xk, xi, xa, xt, xn, xs⟩) (by kernel_rfl) ?_ (fun hHeld => ?_)
      · first | exact ⟨X3.out, Y3.out⟩ | exact ⟨X4.out, Y4.out⟩ | exact ⟨X5.out, Y5.out⟩ | exact ⟨X6.out, Y6.out⟩
      refine wpAnyH_take (i := 0) (oi := _) (v := _) rfl (by kernel_rfl) (by kernel_rfl) (by kernel_rfl) (fun _ _ _ h => h) (yields_load_cl (by rfl) _ rfl w.heap.size rfl c p (fun _ h => h.1)) (by assumption) ?_
      try simp only [List.getElem_toArray, List.getElem_cons_succ, List.getElem_cons_zero, Act.put, List.setIfInBounds_toArray, List.set_cons_zero, List.set_cons_succ]
      refine wpAnyH_take (i := 1) (oi := _) (v := _) rfl (by kernel_rfl) (by kernel_rfl) (by kernel_rfl) (fun _ _ _ h => h) (yields_load_ex (by rfl) _ rfl (w.heap.size + 1) rfl ⟨xk, xi, xa, xt, xn, xs⟩ (fun _ h => h.2)) (by assumption) ?_
      try simp only [List.getElem_toArray, List.getElem_cons_succ, List.getElem_cons_zero, Act.put, List.setIfInBounds_toArray, List.set_cons_zero, List.set_cons_succ]
      refine wpAnyH_take (i := 3) (oi := _) (v := _) rfl (by kernel_rfl) (by kernel_rfl) (by kernel_rfl) (fun _ _ _ h => h) (yields_load_cl (by rfl) _ rfl w.heap.size rfl c p (fun _ h => h.1)) (by assumption) ?_
      try simp only [List.getElem_toArray, List.getElem_cons_succ, List.getElem_cons_zero, Act.put, List.setIfInBounds_toArray, List.set_cons_zero, List.set_cons_succ]
      refine wpAnyH_take (i := 4) (oi := _) (v := _) rfl (by kernel_rfl) (by kernel_rfl) (by kernel_rfl) (fun _ _ _ h => h) (yields_load_ex (by rfl) _ rfl (w.heap.size + 1) rfl ⟨xk, xi, xa, xt, xn, xs⟩ (fun _ h => h.2)) (by assumption) ?_
      try simp only [List.getElem_toArray, List.getElem_cons_succ, List.getElem_cons_zero, Act.put, List.setIfInBounds_toArray, List.set_cons_zero, List.set_cons_succ]
      refine wpAnyH_ready (rs := [2]) (by kernel_rfl) (by simp) ?_
      refine AllReadyH.cons (o := _) rfl (fun K hK => ?_) AllReadyH.nil
      go_simp
      (refine (allow_any c p ⟨xk, xi, xa, xt, xn, xs⟩ _ IC.out.m1 A3.out).mono ?_; rintro e w4 ⟨rfl, hb4⟩; rw [HE.out]; have X4 := Lib.hid (X3.out.below hb4); have Y4 := Lib.hid (Y3.out.below hb4); have A4 := Lib.hid (A3.out.below hb4); have B4 := Lib.hid (bthen B3.out hb4); clear hb4)
      clear hHeld
      refine hK.out _ _ ?_ (fun hHeld => ?_)
      · (try dsimp only); first | exact ⟨X3.out, Y3.out⟩ | exact ⟨X4.out, Y4.out⟩ | exact ⟨X5.out, Y5.out⟩ | exact ⟨X6.out, Y6.out⟩
      clear hK K
      try simp only [List.getElem_toArray, List.getElem_cons_succ, List.getElem_cons_zero, Act.put, List.setIfInBounds_toArray, List.set_cons_zero, List.set_cons_succ]
      refine wpAnyH_ready (rs := [5]) (by kernel_rfl) (by simp) ?_
      refine AllReadyH.cons (o := _) rfl (fun K hK => ?_) AllReadyH.nil
      go_simp
      (refine (rallow_any c p ⟨xk, xi, xa, xt, xn, xs⟩ _ IC.out.m1 A4.out).mono ?_; rintro e w5 ⟨rfl, hb5⟩; rw [HE.out]; have X5 := Lib.hid (X4.out.below hb5); have Y5 := Lib.hid (Y4.out.below hb5); have A5 := Lib.hid (A4.out.below hb5); have B5 := Lib.hid (bthen B4.out hb5); clear hb5)
      clear hHeld
      refine hK.out _ _ ?_ (fun hHeld => ?_)
      · (try dsimp only); first | exact ⟨X3.out, Y3.out⟩ | exact ⟨X4.out, Y4.out⟩ | exact ⟨X5.out, Y5.out⟩ | exact ⟨X6.out, Y6.out⟩
      clear hK K
      try simp only [List.getElem_toArray, List.getElem_cons_succ, List.getElem_cons_zero, Act.put, List.setIfInBounds_toArray, List.set_cons_zero, List.set_cons_succ]
      refine wpAnyH_take (i := 6) (oi := _) (v := ?_) rfl (by kernel_rfl) (by kernel_rfl) (by kernel_rfl) (fun _ _ _ h => h) (Or.inl ⟨by rfl, ?_⟩) (by assumption) ?_
      rotate_left
      · (intro w hSw; (try dsimp only at hSw); go_simp; try with_reducible rfl)
      try simp only [List.getElem_toArray, List.getElem_cons_succ, List.getElem_cons_zero, Act.put, List.setIfInBounds_toArray, List.set_cons_zero, List.set_cons_succ]
      refine wpAnyH_take (i := 7) (oi := _) (v := ?_) rfl (by kernel_rfl) (by kernel_rfl) (by kernel_rfl) (fun _ _ _ h => h) (Or.inl ⟨by rfl, ?_⟩) (by assumption) ?_
      rotate_left
      · (intro w hSw; (try dsimp only at hSw); go_simp; try with_reducible rfl)
      try simp only [List.getElem_toArray, List.getElem_cons_succ, List.getElem_cons_zero, Act.put, List.setIfInBounds_toArray, List.set_cons_zero, List.set_cons_succ]
      refine wpAnyH_ready (rs := [8]) (by kernel_rfl) (by simp) ?_
      refine AllReadyH.cons (o := _) rfl (fun K hK => ?_) AllReadyH.nil
      go_simp
      (refine (awake25_any _ (hk.below B5.out) (hp.below B5.out) (hE.below B5.out)).mono ?_; rintro e w6 ⟨rfl, hb6⟩; have X6 := Lib.hid (X5.out.below hb6); have Y6 := Lib.hid (Y5.out.below hb6); have B6 := Lib.hid (bthen B5.out hb6); clear hb6)
      clear hHeld
      refine hK.out _ _ ?_ (fun hHeld => ?_)
      · (try dsimp only); first | exact ⟨X3.out, Y3.out⟩ | exact ⟨X4.out, Y4.out⟩ | exact ⟨X5.out, Y5.out⟩ | exact ⟨X6.out, Y6.out⟩
      clear hK K
      try simp only [List.getElem_toArray, List.getElem_cons_succ, List.getElem_cons_zero, Act.put, List.setIfInBounds_toArray, List.set_cons_zero, List.set_cons_succ]
      refine wpAnyH_take (i := 9) (oi := _) (v := ?_) rfl (by kernel_rfl) (by kernel_rfl) (by kernel_rfl) (fun _ _ _ h => h) (Or.inl ⟨by rfl, ?_⟩) (by assumption) ?_
      rotate_left
      · (intro w hSw; (try dsimp only at hSw); go_simp; try with_reducible rfl)
      try simp only [List.getElem_toArray, List.getElem_cons_succ, List.getElem_cons_zero, Act.put, List.setIfInBounds_toArray, List.set_cons_zero, List.set_cons_succ]
      refine wpAnyH_take (i := 10) (oi := _) (v := ?_) rfl (by kernel_rfl) (by kernel_rfl) (by kernel_rfl) (fun _ _ _ h => h) (Or.inl ⟨by rfl, ?_⟩) (by assumption) ?_
      rotate_left
      · (intro w hSw; (try dsimp only at hSw); go_simp; try with_reducible rfl)
      try simp only [List.getElem_toArray, List.getElem_cons_succ, List.getElem_cons_zero, Act.put, List.setIfInBounds_toArray, List.set_cons_zero, List.set_cons_succ]
      refine wpAnyH_done (by kernel_rfl) ?_ _
      go_wp2_with fail
      go_ret
      exact ⟨rfl, B6.out⟩
    · have HF : Hid (fewB [xk, xi, xa, xt] = false) := Lib.hid (by simpa using hf)
      clear hf
      go_enter Tryz.func5, Tryz.ntmps5
      go_wp2_with (first | (refine box_cl rfl _ rfl _ rfl c p rfl ?_) | (refine load_cl rfl _ rfl _ rfl w.heap.size rfl c p X1 ?_) | fail)
      refine (light25_any c p _ A1.out IC.out.m1 IC.out.m2 IC.out.m3).mono ?_
      rintro e w2 ⟨rfl, hb2⟩
      rw [HL.out]
      have X2 := Lib.hid (X1.out.below hb2)
      have Y2 := Lib.hid (Y1.out.below hb2)
      have A2 := Lib.hid (A1.out.below hb2)
      have B2 := Lib.hid (bthen B1.out hb2)
      clear hb2
      have S2 : Hid (Strs (w2.alloc (.cells #[.string xk, .string xi, .string xa, .string xt] 9)) (some ⟨w2.heap.size, 0, none⟩) [xk, xi, xa, xt]) := Lib.hid (strs_row (l := [xk, xi, xa, xt]) (heap_alloc_new w2 _) (fun j hj => by
        have : j < 4 := hj
        rcases j with _|_|_|_|j <;> first | omega | rfl))
      have BA : Below w2.heap.size w2 (w2.alloc (.cells #[.string xk, .string xi, .string xa, .string xt] 9)) := (Below.refl _ _).alloc (Nat.le_refl _) _
      obtain ⟨e0, e1, e2, e3, _, _⟩ := exCells Y2.out
      go_wp2_with fail
      refine (few25_any [xk, xi, xa, xt] (some ⟨w2.heap.size, 0, none⟩) 4 _ S2.out (by show 4 ≤ _; omega)).mono ?_
      rintro e wsame ⟨rfl, rfl⟩
      clear e0 e1 e2 e3
      rw [HF.out]
      have BL := Lib.hid (bthen B2.out BA)
      go_wp2_with fail
      refine (awake25_any _ (hk.below BL.out) (hp.below BL.out) (hE.below BL.out)).mono ?_
      rintro e wz ⟨rfl, hbz⟩
      have BZ := Lib.hid (bthen BL.out hbz)
      clear hbz
      go_wp2_with fail
      go_ret
      exact ⟨rfl, BZ.out⟩
  · have HL : Hid (lightC c = false) := Lib.hid (by simpa using hl)
    clear hl
    go_enter Tryz.func5, Tryz.ntmps5
    go_wp2_with (first | (refine box_cl rfl _ rfl _ rfl c p rfl ?_) | (refine load_cl rfl _ rfl _ rfl w.heap.size rfl c p X1 ?_) | fail)
    refine (light25_any c p _ A1.out IC.out.m1 IC.out.m2 IC.out.m3).mono ?_
    rintro e w2 ⟨rfl, hb2⟩
    rw [HL.out]
    have BL := Lib.hid (bthen B1.out hb2)
    clear hb2
    go_wp2_with fail
    refine (awake25_any _ (hk.below BL.out) (hp.below BL.out) (hE.below BL.out)).mono ?_
    rintro e wz ⟨rfl, hbz⟩
    have BZ := Lib.hid (bthen BL.out hbz)
    clear hbz
    go_wp2_with fail
    go_ret
    exact ⟨rfl, BZ.out⟩

set_option maxRecDepth 100000 in
/-- What the walk gives, for every argument and every world that holds the listed variables. -/
theorem contract (H : Type) (enc : TypeId × Value → H) (W : World) (base : Nat) (args : Array Value) (ds gs : List (DataW H)) (before : List MemPlace)
    (hval : ∀ (j : Nat) t v, Tryz.f5.params[j]? = some t → args[j]? = some v → Value.okWide Tryz.prog W .any base t v)
    (hW : DataW.Whole enc Tryz.prog Tryz.f5.params.toList Rows.claimsAllowsSpec.vars false W args.toList ds gs before) (hL : laidMetH Tryz.prog Rows.claimsAllowsRow.laid W) :
    Calls Tryz.prog 5 args W fun e W' => ∃ v, e = .returned v ∧ Rows.claimsAllowsSpec.post enc Tryz.prog Tryz.f5 false true false false W args v W' := by
  have hW' := hW
  obtain ⟨p, q, hA0, hV, rfl, hfz, hnd⟩ := hW
  obtain ⟨rfl, rfl⟩ := trodVars_none hV
  have hA1 : DataW.TrodAll enc Tryz.prog W 0 (fun _ => true) true Tryz.f5.params.toList args.toList ds (p ++ []) := by rw [List.append_nil]; exact hA0
  have hA : DataW.TrodAll enc Tryz.prog W 0 (fun _ => true) true Tryz.f5.params.toList args.toList ds p := hA0
  rw [Tryz.params5] at hA hval
  obtain ⟨v0, vs0, d0, ds0, p0, q0, hargs, rfl, rfl, h0, r0⟩ := trodAll_cons hA
  obtain ⟨v1, vs1, d1, ds1, p1, q1, rfl, rfl, rfl, h1, r1⟩ := trodAll_cons r0
  obtain ⟨rfl, rfl, rfl⟩ := trodAll_nil r1
  obtain rfl : args = #[v0, v1] := by cases args; simp_all
  obtain ⟨x0, q0, rfl, at0, in0⟩ := open_cl (hval 0 24 v0 rfl rfl) h0
  obtain ⟨x1, rfl, in1⟩ := open_ex (hval 1 36 v1 rfl rfl) h1
  obtain ⟨hk, hp, hE⟩ := laid_tabs hL
  refine (walk x0 x1 q0 W hk hp hE at0 in0).mono fun e W' ⟨he, hb⟩ => ?_
  subst he
  exact ⟨_, rfl, law_post laidOut (by kernel_rfl) (by kernel_rfl) Tryz.underlying4 hW' rfl rfl hA1 hb⟩

set_option maxRecDepth 100000 in
theorem reads (w : World) {H : Type} (enc : TypeId × Value → H) : ∃ places, DataW.whole enc Tryz.prog w Tryz.f5.params.toList Rows.claimsAllowsSpec.vars false #[Value.agg #[.string ByteArray.empty, .string ByteArray.empty, .string ByteArray.empty, .string ByteArray.empty, .string ByteArray.empty, .string ByteArray.empty, .string ByteArray.empty, .string ByteArray.empty, .slice none 0 0, .slice none 0 0, .slice none 0 0, .int .i64 0, .int .i64 0, .int .i64 0, .int .i64 0, .int .i64 0], .agg #[.string ByteArray.empty, .string ByteArray.empty, .string ByteArray.empty, .string ByteArray.empty, .int .i64 0, .int .i64 0]].toList 8 = some ([.agg [.lit (.string []), .lit (.string []), .lit (.string []), .lit (.string []), .lit (.string []), .lit (.string []), .lit (.string []), .lit (.string []), .nil, .nil, .nil, .lit (.int .i64 0), .lit (.int .i64 0), .lit (.int .i64 0), .lit (.int .i64 0), .lit (.int .i64 0)], .agg [.lit (.string []), .lit (.string []), .lit (.string []), .lit (.string []), .lit (.int .i64 0), .lit (.int .i64 0)]], [], places) :=
  ⟨[], by kernel_rfl⟩
theorem args_ok (w : World) : Input.okWideB Tryz.prog w 5 ⟨#[], #[.agg #[.string ByteArray.empty, .string ByteArray.empty, .string ByteArray.empty, .string ByteArray.empty, .string ByteArray.empty, .string ByteArray.empty, .string ByteArray.empty, .string ByteArray.empty, .slice none 0 0, .slice none 0 0, .slice none 0 0, .int .i64 0, .int .i64 0, .int .i64 0, .int .i64 0, .int .i64 0], .agg #[.string ByteArray.empty, .string ByteArray.empty, .string ByteArray.empty, .string ByteArray.empty, .int .i64 0, .int .i64 0]], []⟩ = true := by kernel_rfl
set_option maxRecDepth 100000 in
theorem lifted (os : Os) (started : os.Started) (H : Type) (enc : TypeId × Value → H) (F : Stop.Interp) :
    ReturnsInHanded {} Tryz.checked os 5 .any ((OpenSpec.ofChange Rows.claimsAllowsSpec).preRow enc Tryz.prog Tryz.f5 Rows.claimsAllowsRow.domain false Rows.claimsAllowsRow.laid) (((OpenSpec.ofChange Rows.claimsAllowsSpec).at F).post enc Tryz.prog Tryz.f5 false true false false) := by
  obtain ⟨places, hx⟩ := reads _ enc
  refine returnsInHanded_of_row (C := Tryz.checked) (s := OpenSpec.ofChange Rows.claimsAllowsSpec) own started (by kernel_rfl) Tryz.func5
    (witness_row_at (enc := enc) (C := Tryz.checked) false (World.laidAll Tryz.prog os laidList) #[.agg #[.string ByteArray.empty, .string ByteArray.empty, .string ByteArray.empty, .string ByteArray.empty, .string ByteArray.empty, .string ByteArray.empty, .string ByteArray.empty, .string ByteArray.empty, .slice none 0 0, .slice none 0 0, .slice none 0 0, .int .i64 0, .int .i64 0, .int .i64 0, .int .i64 0, .int .i64 0], .agg #[.string ByteArray.empty, .string ByteArray.empty, .string ByteArray.empty, .string ByteArray.empty, .int .i64 0, .int .i64 0]] (World.laidAll_os _ _ _) (w_hv os _) (w_hr os _) (args_ok _)
      (OpenSpec.preRow_of_cond 8 hx (by kernel_rfl) (fun k hk => by cases hk) (by kernel_rfl) (w_laid os _))) ?_
  intro W base args ds gs before hval hW _ _ _ hL _ _
  exact contract H enc W base args ds gs before hval hW hL

theorem said : Rows.ClaimsAllowsSaid :=
  OpenClaim.holds_of_cond 5 Tryz.f5 rfl rfl rfl rfl rfl rfl rfl ⟨rfl, rfl, rfl, rfl, rfl⟩ rfl rfl rfl rfl rfl (by kernel_rfl) Tryz.func5 (by kernel_rfl)
    (of_decide_eq_true (by kernel_rfl)) (by unfold Func.isWrapper; first | (rw [if_pos (by decide +kernel)]; kernel_rfl) | (rw [if_neg (by decide +kernel)]; exact ⟨rfl, rfl⟩))
    (fun os started H enc _ F => by rw [OpenClaim.pre_eq_preRow]; exact lifted os started H enc F)

theorem plain (f : FuncId) (fn : Func) (hf : Tryz.pinned.checked.prog.funcNamed Rows.claimsAllowsRow.func = some f) (hfn : Tryz.pinned.checked.prog.funcs[f]? = some fn) :
    true = Tryz.pinned.checked.prog.looks [] ∧ ∀ (j : Nat) t, fn.params[j]? = some t → Tryz.pinned.checked.prog.wantsStandIn t = false := by
  obtain rfl : f = 5 := Option.some.inj ((show Tryz.prog.funcNamed Rows.claimsAllowsRow.func = some 5 by kernel_rfl).symm.trans hf) |>.symm
  obtain rfl : fn = Tryz.f5 := (Option.some.inj (Tryz.func5.symm.trans hfn)).symm
  refine ⟨by kernel_rfl, fun j t ht => ?_⟩
  rw [Tryz.params5] at ht
  have hm : t ∈ [24, 36] := by simpa using Array.mem_of_getElem? ht
  have hall : ([24, 36].all fun u => !Tryz.prog.wantsStandIn u) = true := by kernel_rfl
  exact (show Tryz.prog.wantsStandIn t = false by simpa using List.all_eq_true.1 hall t hm)

theorem card : Rows.ClaimsAllowsCardSaid :=
  Claim7.holds_tied_plain_at .later [] _ _ _ _ said (fun _ h => by cases h) (by kernel_rfl) (fun _ h => by cases h) claimsAllows_row_tie rfl ⟨rfl, rfl⟩ (by kernel_rfl) rfl plain (by kernel_rfl)
end Go.Proofs.YtpmikpijonccjaaGreatDoor.claimsAllows
