/- ClaimsWindow: for every claims and every expectation the law answers true and leaves its arguments alone; no condition. -/
import Derived.Lay
import Derived.Test.YtpmikpijonccjaaGreatDoorCards
import Derived.Test.YtpmikpijonccjaaGreatDoorTie
import Derived.Test.YtpmikpijonccjaaGreatDoorSeg4
import Derived.Test.YtpmikpijonccjaaGreatDoorSeg10
import Derived.Test.YtpmikpijonccjaaGreatDoorSeg9
import Derived.Test.YtpmikpijonccjaaGreatDoorSeg12
namespace Go.Proofs.YtpmikpijonccjaaGreatDoor.claimsWindow
open Go.ChangeShapes Go.WideShapes Go.ChangeAt Go.RowKit
open Go.ChangeMaps (open_string)


theorem exCells {w : World} {b : Nat} {xk xi xa xt : ByteArray} {xn xs : Int} (h : ExBox w b ⟨xk, xi, xa, xt, xn, xs⟩) : w.cell? ⟨b, 0, none⟩ = some (.string xk) ∧ w.cell? ⟨b, 1, none⟩ = some (.string xi) ∧ w.cell? ⟨b, 2, none⟩ = some (.string xa) ∧ w.cell? ⟨b, 3, none⟩ = some (.string xt) ∧ w.cell? ⟨b, 4, none⟩ = some (.int .i64 xn) ∧ w.cell? ⟨b, 5, none⟩ = some (.int .i64 xs) :=
  ⟨cell_of_row w b 0 _ _ (0, 0) h, cell_of_row w b 1 _ _ (0, 0) h, cell_of_row w b 2 _ _ (0, 0) h, cell_of_row w b 3 _ _ (0, 0) h, cell_of_row w b 4 _ _ (0, 0) h, cell_of_row w b 5 _ _ (0, 0) h⟩

set_option maxHeartbeats 8000000 in
set_option maxRecDepth 100000 in
theorem walk (c : Cl) (x : Ex) (p : P3) (w : World) (hk : KeysOk w) (hp : PowOk w) (hE : ErrsOk w) (hc : ClAt w c p) (ic : ClIn c p) (ix : ExIn x) :
    Calls Tryz.prog 9 #[clV c p, exV x] w fun e w' => e = .returned (.bool true) ∧ Below w.heap.size w w' := by
  obtain ⟨xk, xi, xa, xt, xn, xs⟩ := x
  obtain ⟨_, _, _, _, _, hsk⟩ := ix
  simp only at hsk
  show Calls Tryz.prog 9 #[clV c p, .agg #[.string xk, .string xi, .string xa, .string xt, .int .i64 xn, .int .i64 xs]] w _
  have B1 : Hid (Below w.heap.size w ((w.alloc (clO c p)).alloc (.cells #[.string xk, .string xi, .string xa, .string xt, .int .i64 xn, .int .i64 xs] 36))) := Lib.hid (((Below.refl _ _).alloc (Nat.le_refl _) _).alloc (by simp) _)
  have X1 : Hid (ClBox ((w.alloc (clO c p)).alloc (.cells #[.string xk, .string xi, .string xa, .string xt, .int .i64 xn, .int .i64 xs] 36)) w.heap.size c p) := Lib.hid ((ClBox.new w c p).below ((Below.refl _ _).alloc (Nat.le_refl _) _))
  have Y1 : Hid (ExBox ((w.alloc (clO c p)).alloc (.cells #[.string xk, .string xi, .string xa, .string xt, .int .i64 xn, .int .i64 xs] 36)) (w.heap.size + 1) ⟨xk, xi, xa, xt, xn, xs⟩) := Lib.hid (by have h := ExBox.new (w.alloc (clO c p)) ⟨xk, xi, xa, xt, xn, xs⟩; rwa [show (w.alloc (clO c p)).heap.size = w.heap.size + 1 by simp] at h)
  have A1 := Lib.hid (hc.below B1.out)
  have IC := Lib.hid ic
  clear hc ic
  have hsz : (w.alloc (clO c p)).heap.size = w.heap.size + 1 := by simp
  by_cases hl : lightC c = true
  · have HL := Lib.hid hl
    clear hl
    by_cases hf : fewB [xk, xi, xa, xt] = true
    · have HF := Lib.hid hf
      clear hf
      by_cases h0 : 0 ≤ xn
      · have t0 : decide (xn < 0) = false := decide_eq_false (by omega)
        by_cases h1 : xn ≤ 1099511627776
        · have t1 : decide ((1099511627776 : Int) < xn) = false := decide_eq_false (by omega)
          have HN : Hid (0 ≤ xn ∧ xn ≤ 1099511627776) := Lib.hid ⟨h0, h1⟩
          by_cases ha : allowE c ⟨xk, xi, xa, xt, xn, xs⟩ = 0
          · obtain ⟨a1, a2, a3, a4, a5⟩ := allow_ok ha
            simp only at a1 a2 a3 a4 a5
            have s0 : (c.kind.toList == xk.toList) = true := by rw [a1]; simp
            have s1 : (c.issuer.toList == xi.toList) = true := by rw [a2]; simp
            have s4 : (c.tenant.toList == xt.toList) = true := by rw [a3]; simp
            clear a1 a2 a3
            obtain ⟨b1, b2, b3⟩ := window_ok a5
            rw [lim_self HN.out] at b2 b3
            go_enter Tryz.func9, Tryz.ntmps9
            go_wp2_with (first | (refine box_cl rfl _ rfl _ rfl c p rfl ?_) | (refine load_cl rfl _ rfl _ rfl w.heap.size rfl c p X1 ?_) | fail)
            refine (light25_any c p _ A1.out IC.out.m1 IC.out.m2 IC.out.m3).mono ?_
            rintro e w2 ⟨rfl, hb2⟩
            rw [HL.out]
            have X2 := Lib.hid (X1.out.below hb2)
            have Y2 := Lib.hid (Y1.out.below hb2)
            have A2 := Lib.hid (A1.out.below hb2)
            have B2 := Lib.hid (bthen B1.out hb2)
            clear hb2
            have S2 : Hid (Strs (w2.alloc (.cells #[.string xk, .string xi, .string xa, .string xt] 9)) (some ⟨w2.heap.size, 0, none⟩) [xk, xi, xa, xt]) := Lib.hid (strs_row (l := [xk, xi, xa, xt]) (heap_alloc_new w2 _) (fun j hj => by
              have : j < 4 := hj
              rcases j with _|_|_|_|j <;> first | omega | rfl))
            have BA : Below w2.heap.size w2 (w2.alloc (.cells #[.string xk, .string xi, .string xa, .string xt] 9)) := (Below.refl _ _).alloc (Nat.le_refl _) _
            obtain ⟨e0, e1, e2, e3, _, _⟩ := exCells Y2.out
            go_wp2_with fail
            refine (few25_any [xk, xi, xa, xt] (some ⟨w2.heap.size, 0, none⟩) 4 _ S2.out (by show 4 ≤ _; omega)).mono ?_
            rintro e wsame ⟨rfl, rfl⟩
            clear e0 e1 e2 e3
            rw [HF.out]
            obtain ⟨w3, HW3⟩ : ∃ W, Hid (w2.alloc (.cells #[.string xk, .string xi, .string xa, .string xt] 9) = W) := ⟨_, Lib.hid rfl⟩
            have X3 := Lib.hid (X2.out.below BA)
            have Y3 := Lib.hid (Y2.out.below BA)
            have A3 := Lib.hid (A2.out.below BA)
            have B3 := Lib.hid (bthen B2.out BA)
            rw [HW3.out] at X3 Y3 A3 B3
            rw [HW3.out]
            clear BA X1 Y1 A1 B1 X2 Y2 A2 B2 S2 HW3
            obtain ⟨e0, e1, e2, e3, e4, e5⟩ := exCells Y3.out
            go_wp2_with (first | (refine load_cl rfl _ rfl _ rfl w.heap.size rfl c p X3 ?_) | fail)
            refine (allow_any c p ⟨xk, xi, xa, xt, xn, xs⟩ _ IC.out.m1 A3.out).mono ?_
            rintro e w4 ⟨rfl, hb4⟩
            rw [ha]
            have X4 := Lib.hid (X3.out.below hb4)
            have Y4 := Lib.hid (Y3.out.below hb4)
            have A4 := Lib.hid (A3.out.below hb4)
            have B4 := Lib.hid (bthen B3.out hb4)
            clear hb4 e0 e1 e2 e3 e4 e5 X3 Y3 A3 B3
            obtain ⟨e0, e1, e2, e3, e4, e5⟩ := exCells Y4.out
            obtain ⟨k0, k1, _, _, k4, _, _, _, k8, _, _, _, k12, k13, _, _⟩ := X4.out.cells
            go_upto_region 6 with fail
            obtain ⟨K, HK⟩ : ∃ K, Hid (max 0 (min xs 600) = K) := ⟨_, Lib.hid rfl⟩
            have hKe : skewT xs = K := by rw [← HK.out]; unfold skewT; omega
            rw [hKe] at b2 b3
            have hK := skewT_in xs
            rw [hKe] at hK
            obtain ⟨hK0, hK1⟩ := hK
            rw [HK.out]
            clear hKe t0 t1
            have t5 : decide (c.nb ≤ xn + K) = true := decide_eq_true b2
            have t6 : decide (xn - K < c.exp) = true := decide_eq_true b3
            clear b1 b2 b3 a5 hsk
            go_wp2_with fail
            refine (has_any c.aud p.a1 p.c1 xa _ A4.out.aud IC.out.m1).mono ?_
            rintro e wsame ⟨rfl, rfl⟩
            rw [a4]
            have BL := B4
            go_wp2_with fail
            refine (awake25_any _ (hk.below BL.out) (hp.below BL.out) (hE.below BL.out)).mono ?_
            rintro e wz ⟨rfl, hbz⟩
            have BZ := Lib.hid (bthen BL.out hbz)
            clear hbz
            go_wp2_with fail
            go_ret
            exact ⟨rfl, BZ.out⟩
          · obtain ⟨E, HE⟩ : ∃ E, Hid (allowE c ⟨xk, xi, xa, xt, xn, xs⟩ = E) := ⟨_, Lib.hid rfl⟩
            have een : (E != 0) = true := by rw [← HE.out]; simpa using ha
            clear ha
            go_enter Tryz.func9, Tryz.ntmps9
            go_wp2_with (first | (refine box_cl rfl _ rfl _ rfl c p rfl ?_) | (refine load_cl rfl _ rfl _ rfl w.heap.size rfl c p X1 ?_) | fail)
            refine (light25_any c p _ A1.out IC.out.m1 IC.out.m2 IC.out.m3).mono ?_
            rintro e w2 ⟨rfl, hb2⟩
            rw [HL.out]
            have X2 := Lib.hid (X1.out.below hb2)
            have Y2 := Lib.hid (Y1.out.below hb2)
            have A2 := Lib.hid (A1.out.below hb2)
            have B2 := Lib.hid (bthen B1.out hb2)
            clear hb2
            have S2 : Hid (Strs (w2.alloc (.cells #[.string xk, .string xi, .string xa, .string xt] 9)) (some ⟨w2.heap.size, 0, none⟩) [xk, xi, xa, xt]) := Lib.hid (strs_row (l := [xk, xi, xa, xt]) (heap_alloc_new w2 _) (fun j hj => by
              have : j < 4 := hj
              rcases j with _|_|_|_|j <;> first | omega | rfl))
            have BA : Below w2.heap.size w2 (w2.alloc (.cells #[.string xk, .string xi, .string xa, .string xt] 9)) := (Below.refl _ _).alloc (Nat.le_refl _) _
            obtain ⟨e0, e1, e2, e3, _, _⟩ := exCells Y2.out
            go_wp2_with fail
            refine (few25_any [xk, xi, xa, xt] (some ⟨w2.heap.size, 0, none⟩) 4 _ S2.out (by show 4 ≤ _; omega)).mono ?_
            rintro e wsame ⟨rfl, rfl⟩
            clear e0 e1 e2 e3
            rw [HF.out]
            obtain ⟨w3, HW3⟩ : ∃ W, Hid (w2.alloc (.cells #[.string xk, .string xi, .string xa, .string xt] 9) = W) := ⟨_, Lib.hid rfl⟩
            have X3 := Lib.hid (X2.out.below BA)
            have Y3 := Lib.hid (Y2.out.below BA)
            have A3 := Lib.hid (A2.out.below BA)
            have B3 := Lib.hid (bthen B2.out BA)
            rw [HW3.out] at X3 Y3 A3 B3
            rw [HW3.out]
            clear BA X1 Y1 A1 B1 X2 Y2 A2 B2 S2 HW3
            obtain ⟨e0, e1, e2, e3, e4, e5⟩ := exCells Y3.out
            go_wp2_with (first | (refine load_cl rfl _ rfl _ rfl w.heap.size rfl c p X3 ?_) | fail)
            refine (allow_any c p ⟨xk, xi, xa, xt, xn, xs⟩ _ IC.out.m1 A3.out).mono ?_
            rintro e w4 ⟨rfl, hb4⟩
            rw [HE.out]
            have BL := Lib.hid (bthen B3.out hb4)
            clear hb4
            go_wp2_with fail
            refine (awake25_any _ (hk.below BL.out) (hp.below BL.out) (hE.below BL.out)).mono ?_
            rintro e wz ⟨rfl, hbz⟩
            have BZ := Lib.hid (bthen BL.out hbz)
            clear hbz
            go_wp2_with fail
            go_ret
            exact ⟨rfl, BZ.out⟩
        · have t1 : decide ((1099511627776 : Int) < xn) = true := decide_eq_true (by omega)
          clear h1
          go_enter Tryz.func9, Tryz.ntmps9
          go_wp2_with (first | (refine box_cl rfl _ rfl _ rfl c p rfl ?_) | (refine load_cl rfl _ rfl _ rfl w.heap.size rfl c p X1 ?_) | fail)
          refine (light25_any c p _ A1.out IC.out.m1 IC.out.m2 IC.out.m3).mono ?_
          rintro e w2 ⟨rfl, hb2⟩
          rw [HL.out]
          have X2 := Lib.hid (X1.out.below hb2)
          have Y2 := Lib.hid (Y1.out.below hb2)
          have A2 := Lib.hid (A1.out.below hb2)
          have B2 := Lib.hid (bthen B1.out hb2)
          clear hb2
          have S2 : Hid (Strs (w2.alloc (.cells #[.string xk, .string xi, .string xa, .string xt] 9)) (some ⟨w2.heap.size, 0, none⟩) [xk, xi, xa, xt]) := Lib.hid (strs_row (l := [xk, xi, xa, xt]) (heap_alloc_new w2 _) (fun j hj => by
            have : j < 4 := hj
            rcases j with _|_|_|_|j <;> first | omega | rfl))
          have BA : Below w2.heap.size w2 (w2.alloc (.cells #[.string xk, .string xi, .string xa, .string xt] 9)) := (Below.refl _ _).alloc (Nat.le_refl _) _
          obtain ⟨e0, e1, e2, e3, _, _⟩ := exCells Y2.out
          go_wp2_with fail
          refine (few25_any [xk, xi, xa, xt] (some ⟨w2.heap.size, 0, none⟩) 4 _ S2.out (by show 4 ≤ _; omega)).mono ?_
          rintro e wsame ⟨rfl, rfl⟩
          clear e0 e1 e2 e3
          rw [HF.out]
          obtain ⟨w3, HW3⟩ : ∃ W, Hid (w2.alloc (.cells #[.string xk, .string xi, .string xa, .string xt] 9) = W) := ⟨_, Lib.hid rfl⟩
          have X3 := Lib.hid (X2.out.below BA)
          have Y3 := Lib.hid (Y2.out.below BA)
          have A3 := Lib.hid (A2.out.below BA)
          have B3 := Lib.hid (bthen B2.out BA)
          rw [HW3.out] at X3 Y3 A3 B3
          rw [HW3.out]
          clear BA X1 Y1 A1 B1 X2 Y2 A2 B2 S2 HW3
          obtain ⟨e0, e1, e2, e3, e4, e5⟩ := exCells Y3.out
          have BL := B3
          go_wp2_with fail
          refine (awake25_any _ (hk.below BL.out) (hp.below BL.out) (hE.below BL.out)).mono ?_
          rintro e wz ⟨rfl, hbz⟩
          have BZ := Lib.hid (bthen BL.out hbz)
          clear hbz
          go_wp2_with fail
          go_ret
          exact ⟨rfl, BZ.out⟩
      · have t0 : decide (xn < 0) = true := decide_eq_true (by omega)
        clear h0
        go_enter Tryz.func9, Tryz.ntmps9
        go_wp2_with (first | (refine box_cl rfl _ rfl _ rfl c p rfl ?_) | (refine load_cl rfl _ rfl _ rfl w.heap.size rfl c p X1 ?_) | fail)
        refine (light25_any c p _ A1.out IC.out.m1 IC.out.m2 IC.out.m3).mono ?_
        rintro e w2 ⟨rfl, hb2⟩
        rw [HL.out]
        have X2 := Lib.hid (X1.out.below hb2)
        have Y2 := Lib.hid (Y1.out.below hb2)
        have A2 := Lib.hid (A1.out.below hb2)
        have B2 := Lib.hid (bthen B1.out hb2)
        clear hb2
        have S2 : Hid (Strs (w2.alloc (.cells #[.string xk, .string xi, .string xa, .string xt] 9)) (some ⟨w2.heap.size, 0, none⟩) [xk, xi, xa, xt]) := Lib.hid (strs_row (l := [xk, xi, xa, xt]) (heap_alloc_new w2 _) (fun j hj => by
          have : j < 4 := hj
          rcases j with _|_|_|_|j <;> first | omega | rfl))
        have BA : Below w2.heap.size w2 (w2.alloc (.cells #[.string xk, .string xi, .string xa, .string xt] 9)) := (Below.refl _ _).alloc (Nat.le_refl _) _
        obtain ⟨e0, e1, e2, e3, _, _⟩ := exCells Y2.out
        go_wp2_with fail
        refine (few25_any [xk, xi, xa, xt] (some ⟨w2.heap.size, 0, none⟩) 4 _ S2.out (by show 4 ≤ _; omega)).mono ?_
        rintro e wsame ⟨rfl, rfl⟩
        clear e0 e1 e2 e3
        rw [HF.out]
        obtain ⟨w3, HW3⟩ : ∃ W, Hid (w2.alloc (.cells #[.string xk, .string xi, .string xa, .string xt] 9) = W) := ⟨_, Lib.hid rfl⟩
        have X3 := Lib.hid (X2.out.below BA)
        have Y3 := Lib.hid (Y2.out.below BA)
        have A3 := Lib.hid (A2.out.below BA)
        have B3 := Lib.hid (bthen B2.out BA)
        rw [HW3.out] at X3 Y3 A3 B3
        rw [HW3.out]
        clear BA X1 Y1 A1 B1 X2 Y2 A2 B2 S2 HW3
        obtain ⟨e0, e1, e2, e3, e4, e5⟩ := exCells Y3.out
        have BL := B3
        go_wp2_with fail
        refine (awake25_any _ (hk.below BL.out) (hp.below BL.out) (hE.below BL.out)).mono ?_
        rintro e wz ⟨rfl, hbz⟩
        have BZ := Lib.hid (bthen BL.out hbz)
        clear hbz
        go_wp2_with fail
        go_ret
        exact ⟨rfl, BZ.out⟩
    · have HF : Hid (fewB [xk, xi, xa, xt] = false) := Lib.hid (by simpa using hf)
      clear hf
      go_enter Tryz.func9, Tryz.ntmps9
      go_wp2_with (first | (refine box_cl rfl _ rfl _ rfl c p rfl ?_) | (refine load_cl rfl _ rfl _ rfl w.heap.size rfl c p X1 ?_) | fail)
      refine (light25_any c p _ A1.out IC.out.m1 IC.out.m2 IC.out.m3).mono ?_
      rintro e w2 ⟨rfl, hb2⟩
      rw [HL.out]
      have X2 := Lib.hid (X1.out.below hb2)
      have Y2 := Lib.hid (Y1.out.below hb2)
      have A2 := Lib.hid (A1.out.below hb2)
      have B2 := Lib.hid (bthen B1.out hb2)
      clear hb2
      have S2 : Hid (Strs (w2.alloc (.cells #[.string xk, .string xi, .string xa, .string xt] 9)) (some ⟨w2.heap.size, 0, none⟩) [xk, xi, xa, xt]) := Lib.hid (strs_row (l := [xk, xi, xa, xt]) (heap_alloc_new w2 _) (fun j hj => by
        have : j < 4 := hj
        rcases j with _|_|_|_|j <;> first | omega | rfl))
      have BA : Below w2.heap.size w2 (w2.alloc (.cells #[.string xk, .string xi, .string xa, .string xt] 9)) := (Below.refl _ _).alloc (Nat.le_refl _) _
      obtain ⟨e0, e1, e2, e3, _, _⟩ := exCells Y2.out
      go_wp2_with fail
      refine (few25_any [xk, xi, xa, xt] (some ⟨w2.heap.size, 0, none⟩) 4 _ S2.out (by show 4 ≤ _; omega)).mono ?_
      rintro e wsame ⟨rfl, rfl⟩
      clear e0 e1 e2 e3
      rw [HF.out]
      have BL := Lib.hid (bthen B2.out BA)
      go_wp2_with fail
      refine (awake25_any _ (hk.below BL.out) (hp.below BL.out) (hE.below BL.out)).mono ?_
      rintro e wz ⟨rfl, hbz⟩
      have BZ := Lib.hid (bthen BL.out hbz)
      clear hbz
      go_wp2_with fail
      go_ret
      exact ⟨rfl, BZ.out⟩
  · have HL : Hid (lightC c = false) := Lib.hid (by simpa using hl)
    clear hl
    go_enter Tryz.func9, Tryz.ntmps9
    go_wp2_with (first | (refine box_cl rfl _ rfl _ rfl c p rfl ?_) | (refine load_cl rfl _ rfl _ rfl w.heap.size rfl c p X1 ?_) | fail)
    refine (light25_any c p _ A1.out IC.out.m1 IC.out.m2 IC.out.m3).mono ?_
    rintro e w2 ⟨rfl, hb2⟩
    rw [HL.out]
    have BL := Lib.hid (bthen B1.out hb2)
    clear hb2
    go_wp2_with fail
    refine (awake25_any _ (hk.below BL.out) (hp.below BL.out) (hE.below BL.out)).mono ?_
    rintro e wz ⟨rfl, hbz⟩
    have BZ := Lib.hid (bthen BL.out hbz)
    clear hbz
    go_wp2_with fail
    go_ret
    exact ⟨rfl, BZ.out⟩

set_option maxRecDepth 100000 in
/-- What the walk gives, for every argument and every world that holds the listed variables. -/
theorem contract (H : Type) (enc : TypeId × Value → H) (W : World) (base : Nat) (args : Array Value) (ds gs : List (DataW H)) (before : List MemPlace)
    (hval : ∀ (j : Nat) t v, Tryz.f9.params[j]? = some t → args[j]? = some v → Value.okWide Tryz.prog W .any base t v)
    (hW : DataW.Whole enc Tryz.prog Tryz.f9.params.toList Rows.claimsWindowSpec.vars false W args.toList ds gs before) (hL : laidMetH Tryz.prog Rows.claimsWindowRow.laid W) :
    Calls Tryz.prog 9 args W fun e W' => ∃ v, e = .returned v ∧ Rows.claimsWindowSpec.post enc Tryz.prog Tryz.f9 false true false false W args v W' := by
  have hW' := hW
  obtain ⟨p, q, hA0, hV, rfl, hfz, hnd⟩ := hW
  obtain ⟨rfl, rfl⟩ := trodVars_none hV
  have hA1 : DataW.TrodAll enc Tryz.prog W 0 (fun _ => true) true Tryz.f9.params.toList args.toList ds (p ++ []) := by rw [List.append_nil]; exact hA0
  have hA : DataW.TrodAll enc Tryz.prog W 0 (fun _ => true) true Tryz.f9.params.toList args.toList ds p := hA0
  rw [Tryz.params9] at hA hval
  obtain ⟨v0, vs0, d0, ds0, p0, q0, hargs, rfl, rfl, h0, r0⟩ := trodAll_cons hA
  obtain ⟨v1, vs1, d1, ds1, p1, q1, rfl, rfl, rfl, h1, r1⟩ := trodAll_cons r0
  obtain ⟨rfl, rfl, rfl⟩ := trodAll_nil r1
  obtain rfl : args = #[v0, v1] := by cases args; simp_all
  obtain ⟨x0, q0, rfl, at0, in0⟩ := open_cl (hval 0 24 v0 rfl rfl) h0
  obtain ⟨x1, rfl, in1⟩ := open_ex (hval 1 36 v1 rfl rfl) h1
  obtain ⟨hk, hp, hE⟩ := laid_tabs hL
  refine (walk x0 x1 q0 W hk hp hE at0 in0 in1).mono fun e W' ⟨he, hb⟩ => ?_
  subst he
  exact ⟨_, rfl, law_post laidOut (by kernel_rfl) (by kernel_rfl) Tryz.underlying4 hW' rfl rfl hA1 hb⟩

set_option maxRecDepth 100000 in
theorem reads (w : World) {H : Type} (enc : TypeId × Value → H) : ∃ places, DataW.whole enc Tryz.prog w Tryz.f9.params.toList Rows.claimsWindowSpec.vars false #[Value.agg #[.string ByteArray.empty, .string ByteArray.empty, .string ByteArray.empty, .string ByteArray.empty, .string ByteArray.empty, .string ByteArray.empty, .string ByteArray.empty, .string ByteArray.empty, .slice none 0 0, .slice none 0 0, .slice none 0 0, .int .i64 0, .int .i64 0, .int .i64 0, .int .i64 0, .int .i64 0], .agg #[.string ByteArray.empty, .string ByteArray.empty, .string ByteArray.empty, .string ByteArray.empty, .int .i64 0, .int .i64 0]].toList 8 = some ([.agg [.lit (.string []), .lit (.string []), .lit (.string []), .lit (.string []), .lit (.string []), .lit (.string []), .lit (.string []), .lit (.string []), .nil, .nil, .nil, .lit (.int .i64 0), .lit (.int .i64 0), .lit (.int .i64 0), .lit (.int .i64 0), .lit (.int .i64 0)], .agg [.lit (.string []), .lit (.string []), .lit (.string []), .lit (.string []), .lit (.int .i64 0), .lit (.int .i64 0)]], [], places) :=
  ⟨[], by kernel_rfl⟩
theorem args_ok (w : World) : Input.okWideB Tryz.prog w 9 ⟨#[], #[.agg #[.string ByteArray.empty, .string ByteArray.empty, .string ByteArray.empty, .string ByteArray.empty, .string ByteArray.empty, .string ByteArray.empty, .string ByteArray.empty, .string ByteArray.empty, .slice none 0 0, .slice none 0 0, .slice none 0 0, .int .i64 0, .int .i64 0, .int .i64 0, .int .i64 0, .int .i64 0], .agg #[.string ByteArray.empty, .string ByteArray.empty, .string ByteArray.empty, .string ByteArray.empty, .int .i64 0, .int .i64 0]], []⟩ = true := by kernel_rfl
set_option maxRecDepth 100000 in
theorem lifted (os : Os) (started : os.Started) (H : Type) (enc : TypeId × Value → H) (F : Stop.Interp) :
    ReturnsInHanded {} Tryz.checked os 9 .any ((OpenSpec.ofChange Rows.claimsWindowSpec).preRow enc Tryz.prog Tryz.f9 Rows.claimsWindowRow.domain false Rows.claimsWindowRow.laid) (((OpenSpec.ofChange Rows.claimsWindowSpec).at F).post enc Tryz.prog Tryz.f9 false true false false) := by
  obtain ⟨places, hx⟩ := reads _ enc
  refine returnsInHanded_of_row (C := Tryz.checked) (s := OpenSpec.ofChange Rows.claimsWindowSpec) own started (by kernel_rfl) Tryz.func9
    (witness_row_at (enc := enc) (C := Tryz.checked) false (World.laidAll Tryz.prog os laidList) #[.agg #[.string ByteArray.empty, .string ByteArray.empty, .string ByteArray.empty, .string ByteArray.empty, .string ByteArray.empty, .string ByteArray.empty, .string ByteArray.empty, .string ByteArray.empty, .slice none 0 0, .slice none 0 0, .slice none 0 0, .int .i64 0, .int .i64 0, .int .i64 0, .int .i64 0, .int .i64 0], .agg #[.string ByteArray.empty, .string ByteArray.empty, .string ByteArray.empty, .string ByteArray.empty, .int .i64 0, .int .i64 0]] (World.laidAll_os _ _ _) (w_hv os _) (w_hr os _) (args_ok _)
      (OpenSpec.preRow_of_cond 8 hx (by kernel_rfl) (fun k hk => by cases hk) (by kernel_rfl) (w_laid os _))) ?_
  intro W base args ds gs before hval hW _ _ _ hL _ _
  exact contract H enc W base args ds gs before hval hW hL

theorem said : Rows.ClaimsWindowSaid :=
  OpenClaim.holds_of_cond 9 Tryz.f9 rfl rfl rfl rfl rfl rfl rfl ⟨rfl, rfl, rfl, rfl, rfl⟩ rfl rfl rfl rfl rfl (by kernel_rfl) Tryz.func9 (by kernel_rfl)
    (of_decide_eq_true (by kernel_rfl)) (by unfold Func.isWrapper; first | (rw [if_pos (by decide +kernel)]; kernel_rfl) | (rw [if_neg (by decide +kernel)]; exact ⟨rfl, rfl⟩))
    (fun os started H enc _ F => by rw [OpenClaim.pre_eq_preRow]; exact lifted os started H enc F)

theorem plain (f : FuncId) (fn : Func) (hf : Tryz.pinned.checked.prog.funcNamed Rows.claimsWindowRow.func = some f) (hfn : Tryz.pinned.checked.prog.funcs[f]? = some fn) :
    true = Tryz.pinned.checked.prog.looks [] ∧ ∀ (j : Nat) t, fn.params[j]? = some t → Tryz.pinned.checked.prog.wantsStandIn t = false := by
  obtain rfl : f = 9 := Option.some.inj ((show Tryz.prog.funcNamed Rows.claimsWindowRow.func = some 9 by kernel_rfl).symm.trans hf) |>.symm
  obtain rfl : fn = Tryz.f9 := (Option.some.inj (Tryz.func9.symm.trans hfn)).symm
  refine ⟨by kernel_rfl, fun j t ht => ?_⟩
  rw [Tryz.params9] at ht
  have hm : t ∈ [24, 36] := by simpa using Array.mem_of_getElem? ht
  have hall : ([24, 36].all fun u => !Tryz.prog.wantsStandIn u) = true := by kernel_rfl
  exact (show Tryz.prog.wantsStandIn t = false by simpa using List.all_eq_true.1 hall t hm)

theorem card : Rows.ClaimsWindowCardSaid :=
  Claim7.holds_tied_plain_at .later [] _ _ _ _ said (fun _ h => by cases h) (by kernel_rfl) (fun _ h => by cases h) claimsWindow_row_tie rfl ⟨rfl, rfl⟩ (by kernel_rfl) rfl plain (by kernel_rfl)
end Go.Proofs.YtpmikpijonccjaaGreatDoor.claimsWindow
