/- Joined: ClmNarrow. -/
import Derived.Test.YtpmikpijonccjaaGreatDoorSeg7
/- claims.Narrow and its reference. -/
namespace Go.Proofs.YtpmikpijonccjaaGreatDoor
open Go.RowKit

set_option maxHeartbeats 16000000 in
set_option maxRecDepth 100000 in
theorem narrow_any (c : Cl) (p : P3) (sc au : List ByteArray) (SA AA : Option Addr) (sn an : Nat) (e : Int) (w : World) (hin : ClIn c p) (hC : ClAt w c p) (hSc : Strs w SA sc) (hAu : Strs w AA au) (hsl : sc.length ≤ 9223372036854775807) (hal : au.length ≤ 9223372036854775807) (he : -9223372036854775808 ≤ e ∧ e ≤ 9223372036854775807) :
    Calls Tryz.prog 23 #[clV c p, .slice SA sc.length sn, .slice AA au.length an, .int .i64 e] w fun e' w' => RetCl w' e' (narV c sc au e) (narE c sc au e) ∧ Below w.heap.size w w' := by
  have B1 : Hid (Below w.heap.size w ((w.alloc (clO c p)).alloc (clO cl0 p30))) := Lib.hid (((Below.refl _ _).alloc (Nat.le_refl _) _).alloc (by simp) _)
  have X1 : Hid (ClBox ((w.alloc (clO c p)).alloc (clO cl0 p30)) w.heap.size c p) := Lib.hid ((ClBox.new w c p).below ((Below.refl _ _).alloc (Nat.le_refl _) _))
  have Y1 : Hid (ClBox ((w.alloc (clO c p)).alloc (clO cl0 p30)) (w.heap.size + 1) cl0 p30) := Lib.hid (by have h := ClBox.new (w.alloc (clO c p)) cl0 p30; simpa using h)
  have HC := Lib.hid hC
  have HI := Lib.hid hin
  have HSC := Lib.hid hSc
  have HAU := Lib.hid hAu
  clear hC hin hSc hAu
  obtain ⟨he1, he2⟩ := he
  obtain ⟨G, HG⟩ : ∃ G, Hid (narE c sc au e = G) := ⟨_, Lib.hid rfl⟩
  obtain ⟨C, HCC⟩ : ∃ C, Hid (narV c sc au e = C) := ⟨_, Lib.hid rfl⟩
  obtain ⟨E, HE⟩ : ∃ E, Hid (checkE c = E) := ⟨_, Lib.hid rfl⟩
  have N0 : Hid (E ≠ 0 → G = E ∧ C = cl0) := Lib.hid (by rw [← HE.out, ← HG.out, ← HCC.out]; exact nar0)
  have N1 : Hid (E = 0 → allIn sc c.sco = false → G = 19 ∧ C = cl0) := Lib.hid (by rw [← HE.out, ← HG.out, ← HCC.out]; exact nar1)
  have N2 : Hid (E = 0 → allIn sc c.sco = true → (au.length = 0 ∨ allIn au c.aud = false) → G = 15 ∧ C = cl0) := Lib.hid (by rw [← HE.out, ← HG.out, ← HCC.out]; exact nar2)
  have N3 : Hid (E = 0 → allIn sc c.sco = true → au.length ≠ 0 → allIn au c.aud = true → (c.exp < limT e ∨ limT e < c.issued ∨ limT e < c.nb) → G = 27 ∧ C = cl0) := Lib.hid (by rw [← HE.out, ← HG.out, ← HCC.out]; exact nar3)
  have N4 : Hid (E = 0 → allIn sc c.sco = true → au.length ≠ 0 → allIn au c.aud = true → ¬ (c.exp < limT e ∨ limT e < c.issued ∨ limT e < c.nb) → G = 0 ∧ C = narC c sc au e) := Lib.hid (by rw [← HE.out, ← HG.out, ← HCC.out]; exact nar4)
  rw [HG.out, HCC.out]
  clear HG HCC
  go_enter Tryz.func23, Tryz.ntmps23
  go_wp2_with (first | (refine box_cl rfl _ rfl _ rfl c p rfl ?_) | (refine alloc_cl rfl _ rfl rfl ?_) | (refine load_cl rfl _ rfl _ rfl w.heap.size rfl c p X1 ?_) | fail)
  refine (check_any c p _ HI.out (HC.out.below B1.out)).mono ?_
  rintro e0 w2 ⟨rfl, hb2⟩
  rw [HE.out]
  have hz2 : w.heap.size + 2 ≤ w2.heap.size := by have := hb2.size; simp at this; omega
  have B2 := Lib.hid (bthen B1.out hb2)
  have X2 := Lib.hid (X1.out.below hb2)
  have Y2 := Lib.hid (Y1.out.below hb2)
  clear hb2 B1 X1 Y1
  by_cases h0 : ¬ E = 0
  · have t0 : (E != 0) = true := by rw [bne_iff_ne]; exact h0
    have HN := Lib.hid (N0.out h0)
    clear h0
    go_wp2_with (first | (refine build_cl rfl _ rfl rfl ?_) | (refine store_cl rfl _ rfl _ _ rfl (w.heap.size + 1) rfl cl0 p30 rfl cl0 p30 Y2 ?_) | fail)
    refine bodyPost_ret (v := .tuple #[clV cl0 p30, .int .i64 E]) (res_cl Tryz.results23 _ _ (w.heap.size + 1) cl0 p30 _ rfl (Y2.out.set) rfl) rfl ⟨RetCl.zero _ HN.out, below_setRow B2.out (by omega) _⟩
  · have h0 := Decidable.not_not.1 h0
    have t0 : (E != 0) = false := by rw [h0]; rfl
    have H0 := Lib.hid h0
    have HSM : Hid (ClSmall c) := Lib.hid (check_small (HE.out.trans h0))
    have N1b := Lib.hid (N1.out h0)
    have N2b := Lib.hid (N2.out h0)
    have N3b := Lib.hid (N3.out h0)
    have N4b := Lib.hid (N4.out h0)
    clear h0 N0 N1 N2 N3 N4
    have x9 := X2.out.cells.2.2.2.2.2.2.2.2.2.1
    have hl2 := HSM.out.l2
    have hl1 := HSM.out.l1
    obtain ⟨M1, HM1⟩ : ∃ M, Hid (allIn sc c.sco = M) := ⟨_, Lib.hid rfl⟩
    obtain ⟨M2, HM2⟩ : ∃ M, Hid (allIn au c.aud = M) := ⟨_, Lib.hid rfl⟩
    rw [HM1.out] at N1b N2b N3b N4b
    rw [HM2.out] at N2b N3b N4b
    go_wp2_with fail
    refine (within_any sc c.sco SA p.a2 sn p.c2 _ (HSC.out.below B2.out) (HC.out.below B2.out).sco (by omega) hsl).mono ?_
    rintro e0 wsame ⟨rfl, rfl⟩
    rw [HM1.out]
    clear x9
    cases M1 with
    | false =>
      have HN := Lib.hid (N1b.out (by trivial))
      go_wp2_with (first | (refine build_cl rfl _ rfl rfl ?_) | (refine store_cl rfl _ rfl _ _ rfl (w.heap.size + 1) rfl cl0 p30 rfl cl0 p30 Y2 ?_) | fail)
      refine bodyPost_ret (v := .tuple #[clV cl0 p30, .int .i64 19]) (res_cl Tryz.results23 _ _ (w.heap.size + 1) cl0 p30 _ rfl (Y2.out.set) rfl) rfl ⟨RetCl.zero _ HN.out, below_setRow B2.out (by omega) _⟩
    | true =>
      have x8 := X2.out.cells.2.2.2.2.2.2.2.2.1
      by_cases ha0 : au.length = 0
      · have HN := Lib.hid (N2b.out (by trivial) (.inl ha0))
        have t1 : ((au.length : Int) == 0) = true := by rw [beq_iff_eq]; omega
        clear ha0
        go_wp2_with (first | (refine build_cl rfl _ rfl rfl ?_) | (refine store_cl rfl _ rfl _ _ rfl (w.heap.size + 1) rfl cl0 p30 rfl cl0 p30 Y2 ?_) | fail)
        refine bodyPost_ret (v := .tuple #[clV cl0 p30, .int .i64 15]) (res_cl Tryz.results23 _ _ (w.heap.size + 1) cl0 p30 _ rfl (Y2.out.set) rfl) rfl ⟨RetCl.zero _ HN.out, below_setRow B2.out (by omega) _⟩
      · have t1 : ((au.length : Int) == 0) = false := by rw [beq_eq_false_iff_ne]; omega
        have HA0 := Lib.hid ha0
        clear ha0
        go_wp2_with fail
        refine (within_any au c.aud AA p.a1 an p.c1 _ (HAU.out.below B2.out) (HC.out.below B2.out).aud (by omega) hal).mono ?_
        rintro e0 wsame ⟨rfl, rfl⟩
        rw [HM2.out]
        clear x8
        cases M2 with
        | false =>
          have HN := Lib.hid (N2b.out (by trivial) (.inr (by trivial)))
          go_wp2_with (first | (refine build_cl rfl _ rfl rfl ?_) | (refine store_cl rfl _ rfl _ _ rfl (w.heap.size + 1) rfl cl0 p30 rfl cl0 p30 Y2 ?_) | fail)
          refine bodyPost_ret (v := .tuple #[clV cl0 p30, .int .i64 15]) (res_cl Tryz.results23 _ _ (w.heap.size + 1) cl0 p30 _ rfl (Y2.out.set) rfl) rfl ⟨RetCl.zero _ HN.out, below_setRow B2.out (by omega) _⟩
        | true =>
          have N3c := Lib.hid (N3b.out (by trivial) HA0.out (by trivial))
          have N4c := Lib.hid (N4b.out (by trivial) HA0.out (by trivial))
          clear N1b N2b N3b N4b
          obtain ⟨_, _, _, _, _, _, _, _, _, _, _, x11, x12, x13, _, _⟩ := X2.out.cells
          have hlm := limT_in e
          have HLL : Hid (limT (limT e + limT 0) = limT e) := Lib.hid (by unfold limT; omega)
          obtain ⟨L, HL⟩ : ∃ L, Hid (limT e = L) := ⟨_, Lib.hid rfl⟩
          obtain ⟨i1, HI1⟩ : ∃ L, Hid (c.issued = L) := ⟨_, Lib.hid rfl⟩
          obtain ⟨i2, HI2⟩ : ∃ L, Hid (c.nb = L) := ⟨_, Lib.hid rfl⟩
          obtain ⟨i3, HI3⟩ : ∃ L, Hid (c.exp = L) := ⟨_, Lib.hid rfl⟩
          rw [HI1.out] at x11
          rw [HI2.out] at x12
          rw [HI3.out] at x13
          rw [HL.out, HI1.out, HI2.out, HI3.out] at N3c N4c
          rw [HL.out] at hlm
          obtain ⟨hlm1, hlm2⟩ := hlm
          go_wp2_with fail
          refine (cadd_any e 0 _).mono ?_
          rintro e0 wsame ⟨rfl, rfl⟩
          rw [HLL.out, HL.out]
          by_cases hr : i3 < L ∨ L < i1 ∨ L < i2
          · have HN := Lib.hid (N3c.out hr)
            by_cases r1 : i3 < L
            · clear hr
              go_wp2_with (first | (refine build_cl rfl _ rfl rfl ?_) | (refine store_cl rfl _ rfl _ _ rfl (w.heap.size + 1) rfl cl0 p30 rfl cl0 p30 Y2 ?_) | fail)
              refine bodyPost_ret (v := .tuple #[clV cl0 p30, .int .i64 27]) (res_cl Tryz.results23 _ _ (w.heap.size + 1) cl0 p30 _ rfl (Y2.out.set) rfl) rfl ⟨RetCl.zero _ HN.out, below_setRow B2.out (by omega) _⟩
            · by_cases r2 : L < i1
              · clear hr
                go_wp2_with (first | (refine build_cl rfl _ rfl rfl ?_) | (refine store_cl rfl _ rfl _ _ rfl (w.heap.size + 1) rfl cl0 p30 rfl cl0 p30 Y2 ?_) | fail)
                refine bodyPost_ret (v := .tuple #[clV cl0 p30, .int .i64 27]) (res_cl Tryz.results23 _ _ (w.heap.size + 1) cl0 p30 _ rfl (Y2.out.set) rfl) rfl ⟨RetCl.zero _ HN.out, below_setRow B2.out (by omega) _⟩
              · have r3 : L < i2 := by omega
                clear hr
                go_wp2_with (first | (refine build_cl rfl _ rfl rfl ?_) | (refine store_cl rfl _ rfl _ _ rfl (w.heap.size + 1) rfl cl0 p30 rfl cl0 p30 Y2 ?_) | fail)
                refine bodyPost_ret (v := .tuple #[clV cl0 p30, .int .i64 27]) (res_cl Tryz.results23 _ _ (w.heap.size + 1) cl0 p30 _ rfl (Y2.out.set) rfl) rfl ⟨RetCl.zero _ HN.out, below_setRow B2.out (by omega) _⟩
          · have HN := Lib.hid (N4c.out hr)
            have r1 : ¬ i3 < L := by omega
            have r2 : ¬ L < i1 := by omega
            have r3 : ¬ L < i2 := by omega
            clear hr N3c N4c
            go_wp2_with (first | (refine load_cl rfl _ rfl _ rfl w.heap.size rfl c p X2 ?_) | fail)
            refine (copied_any c p _ (HC.out.below B2.out) (SmallL.of HSM.out)).mono ?_
            rintro e0 w3 ⟨⟨p3, rfl, hcl, _⟩, hb3⟩
            have B3 := Lib.hid (bthen B2.out hb3)
            have X3 := Lib.hid (X2.out.below hb3)
            have Y3 := Lib.hid (Y2.out.below hb3)
            have hz3 : w2.heap.size ≤ w3.heap.size := hb3.size
            have OB := Lib.hid (hcl.o3 (by omega))
            clear hb3 hcl x11 x12 x13
            have HBL : Hid (∀ q, p3.a3 = some q → w2.heap.size ≤ q.block ∧ q.block < w3.heap.size) := Lib.hid (fun q hq => by
              have h1 := OB.out.strs.2.2 q hq
              have h2 := OB.out.top q hq
              omega)
            have TA : Hid (StrsN w3 p3.a3 c.act (fun i => i = w.heap.size + 1 ∨ i = w3.heap.size)) := Lib.hid ⟨OB.out.strs.1, fun q hq _ hn => by have := HBL.out q hq; omega⟩
            have HCA := Lib.hid OB.out.strs.2.1
            clear OB
            have B4 : Hid (Below w.heap.size w (w3.alloc (clO cl0 p30))) := Lib.hid (B3.out.alloc B3.out.size _)
            have Z4 : Hid (ClBox (w3.alloc (clO cl0 p30)) w3.heap.size cl0 p30) := Lib.hid (ClBox.new w3 cl0 p30)
            have X5 : Hid (ClBox ((w3.alloc (clO cl0 p30)).setRow w3.heap.size (clA c p3)) w.heap.size c p) := Lib.hid ((setRow_other _ _ _ _ (by omega)).trans (X3.out.below ((Below.refl _ _).alloc (Nat.le_refl _) _)))
            have Y5 : Hid (ClBox ((w3.alloc (clO cl0 p30)).setRow w3.heap.size (clA c p3)) (w.heap.size + 1) cl0 p30) := Lib.hid ((setRow_other _ _ _ _ (by omega)).trans (Y3.out.below ((Below.refl _ _).alloc (Nat.le_refl _) _)))
            have Z5 : Hid (ClBox ((w3.alloc (clO cl0 p30)).setRow w3.heap.size (clA c p3)) w3.heap.size c p3) := Lib.hid Z4.out.set
            have TA5 : Hid (StrsN ((w3.alloc (clO cl0 p30)).setRow w3.heap.size (clA c p3)) p3.a3 c.act (fun i => i = w.heap.size + 1 ∨ i = w3.heap.size)) := Lib.hid ((TA.out.below ((Below.refl _ _).alloc (Nat.le_refl _) _)).setRow (.inr rfl))
            have B5 : Hid (Below w.heap.size w ((w3.alloc (clO cl0 p30)).setRow w3.heap.size (clA c p3))) := Lib.hid (below_setRow B4.out B3.out.size _)
            clear TA B3 X3 Y3
            have x9 := X5.out.cells.2.2.2.2.2.2.2.2.2.1
            go_wp2_with (first | (refine alloc_cl rfl _ rfl rfl ?_) | (refine store_cl rfl _ rfl _ _ rfl w3.heap.size rfl c p3 rfl cl0 p30 Z4 ?_) | fail)
            refine (common_any c.sco sc p.a2 SA p.c2 sn _ (HC.out.below B5.out).sco (HSC.out.below B5.out) hsl (by omega)).mono ?_
            rintro e0 w6 ⟨⟨v6, rfl, ho6⟩, hb6⟩
            have hz6 : w3.heap.size + 1 ≤ w6.heap.size := by have := hb6.size; simp at this; omega
            obtain ⟨A6, n6, rfl, hO6⟩ := OwnS.form (l := amongL c.sco sc) ho6 rfl
            have T6 : Hid (StrsN w6 A6 (amongL c.sco sc) (fun i => i = w.heap.size + 1 ∨ i = w3.heap.size)) := Lib.hid (hO6.new (fun i hi => by simp; omega))
            have HC6 := Lib.hid hO6.strs.2.1
            have B6 := Lib.hid (bthen B5.out hb6)
            have X6 := Lib.hid (X5.out.below hb6)
            have Y6 := Lib.hid (Y5.out.below hb6)
            have Z6 := Lib.hid (Z5.out.below hb6)
            have TA6 := Lib.hid (TA5.out.below hb6)
            clear ho6 hb6 hO6 x9 B4 Z4 X5 Y5 Z5 TA5 B5
            obtain ⟨l6, HL6⟩ : ∃ l, Hid ((amongL c.sco sc).length = l) := ⟨_, Lib.hid rfl⟩
            have X7 : Hid (ClBox (w6.setCell ⟨w3.heap.size, 9, none⟩ (.slice A6 l6 n6)) w.heap.size c p) := Lib.hid ((heap_setCell_other _ _ _ _ (by show w.heap.size ≠ w3.heap.size; omega)).trans X6.out)
            have Y7 : Hid (ClBox (w6.setCell ⟨w3.heap.size, 9, none⟩ (.slice A6 l6 n6)) (w.heap.size + 1) cl0 p30) := Lib.hid ((heap_setCell_other _ _ _ _ (by show w.heap.size + 1 ≠ w3.heap.size; omega)).trans Y6.out)
            have Z7 : Hid (ClBox (w6.setCell ⟨w3.heap.size, 9, none⟩ (.slice A6 l6 n6)) w3.heap.size (withSco c (amongL c.sco sc)) ⟨p3.a1, p3.c1, A6, n6, p3.a3, p3.c3⟩) := Lib.hid (by have h := Z6.out.sco (amongL c.sco sc) A6 n6; rwa [HL6.out] at h)
            have T7 := Lib.hid (T6.out.setCell (b := w3.heap.size) (i := 9) (v := .slice A6 l6 n6) (.inr rfl))
            have TA7 := Lib.hid (TA6.out.setCell (b := w3.heap.size) (i := 9) (v := .slice A6 l6 n6) (.inr rfl))
            have B7 : Hid (Below w.heap.size w (w6.setCell ⟨w3.heap.size, 9, none⟩ (.slice A6 l6 n6))) := Lib.hid (B6.out.setCell (by show w.heap.size ≤ w3.heap.size; omega) _)
            have z9 := Z6.out.cells.2.2.2.2.2.2.2.2.2.1
            have zf : w6.frozen? ⟨w3.heap.size, 9, none⟩ = false := frozen_of_row w6 w3.heap.size 9 _ _ Z6.out
            have x8 := X7.out.cells.2.2.2.2.2.2.2.2.1
            rw [HL6.out]
            go_wp2_with fail
            refine (common_any c.aud au p.a1 AA p.c1 an _ (HC.out.below B7.out).aud (HAU.out.below B7.out) hal (by omega)).mono ?_
            rintro e0 w8 ⟨⟨v8, rfl, ho8⟩, hb8⟩
            have hz8 : w3.heap.size + 1 ≤ w8.heap.size := by have := hb8.size; simp at this; omega
            obtain ⟨A8, n8, rfl, hO8⟩ := OwnS.form (l := amongL c.aud au) ho8 rfl
            have T8 : Hid (StrsN w8 A8 (amongL c.aud au) (fun i => i = w.heap.size + 1 ∨ i = w3.heap.size)) := Lib.hid (hO8.new (fun i hi => by simp; omega))
            have HC8 := Lib.hid hO8.strs.2.1
            have B8 := Lib.hid (bthen B7.out hb8)
            have Y8 := Lib.hid (Y7.out.below hb8)
            have Z8 := Lib.hid (Z7.out.below hb8)
            have T6b := Lib.hid (T7.out.below hb8)
            have TA8 := Lib.hid (TA7.out.below hb8)
            clear ho8 hb8 hO8 x8 z9 zf X6 Y6 Z6 T6 TA6 B6 X7 Y7 Z7 T7 TA7 B7
            obtain ⟨l8, HL8⟩ : ∃ l, Hid ((amongL c.aud au).length = l) := ⟨_, Lib.hid rfl⟩
            rw [HL8.out]
            have Z9 : Hid (ClBox ((w8.setCell ⟨w3.heap.size, 8, none⟩ (.slice A8 l8 n8)).setCell ⟨w3.heap.size, 13, none⟩ (.int .i64 L)) w3.heap.size (narC c sc au e) ⟨A8, n8, A6, n6, p3.a3, p3.c3⟩) := Lib.hid (by
              have h := (Z8.out.aud (amongL c.aud au) A8 n8).exp L
              rw [HL8.out] at h
              rw [narC, HL.out]
              exact h)
            have Y9 : Hid (ClBox ((w8.setCell ⟨w3.heap.size, 8, none⟩ (.slice A8 l8 n8)).setCell ⟨w3.heap.size, 13, none⟩ (.int .i64 L)) (w.heap.size + 1) cl0 p30) := Lib.hid ((heap_setCell_other _ _ _ _ (by show w.heap.size + 1 ≠ w3.heap.size; omega)).trans ((heap_setCell_other _ _ _ _ (by show w.heap.size + 1 ≠ w3.heap.size; omega)).trans Y8.out))
            have B9 : Hid (Below w.heap.size w ((w8.setCell ⟨w3.heap.size, 8, none⟩ (.slice A8 l8 n8)).setCell ⟨w3.heap.size, 13, none⟩ (.int .i64 L))) := Lib.hid ((B8.out.setCell (by show w.heap.size ≤ w3.heap.size; omega) _).setCell (by show w.heap.size ≤ w3.heap.size; omega) _)
            have AT9 : Hid (ClAt (((w8.setCell ⟨w3.heap.size, 8, none⟩ (.slice A8 l8 n8)).setCell ⟨w3.heap.size, 13, none⟩ (.int .i64 L)).setRow (w.heap.size + 1) (clA (narC c sc au e) ⟨A8, n8, A6, n6, p3.a3, p3.c3⟩)) (narC c sc au e) ⟨A8, n8, A6, n6, p3.a3, p3.c3⟩) := Lib.hid ⟨(((T8.out.setCell (.inr rfl)).setCell (.inr rfl)).setRow (.inl rfl)).s, (((T6b.out.setCell (.inr rfl)).setCell (.inr rfl)).setRow (.inl rfl)).s, (((TA8.out.setCell (.inr rfl)).setCell (.inr rfl)).setRow (.inl rfl)).s⟩
            have CP9 : Hid (Caps (narC c sc au e) ⟨A8, n8, A6, n6, p3.a3, p3.c3⟩) := Lib.hid ⟨HC8.out, HC6.out, HCA.out⟩
            have z8 := Z8.out.cells.2.2.2.2.2.2.2.2.1
            have z13 := Z8.out.cells.2.2.2.2.2.2.2.2.2.2.2.2.2.1
            have zf1 : w8.frozen? ⟨w3.heap.size, 8, none⟩ = false := frozen_of_row w8 w3.heap.size 8 _ _ Z8.out
            have zf2 : w8.frozen? ⟨w3.heap.size, 13, none⟩ = false := frozen_of_row w8 w3.heap.size 13 _ _ Z8.out
            clear Z8 Y8 T8 T6b TA8
            obtain ⟨R, HR⟩ : ∃ R, Hid (narC c sc au e = R) := ⟨_, Lib.hid rfl⟩
            rw [HR.out] at HN Z9 AT9 CP9
            go_wp2_with (first | (refine load_cl rfl _ rfl _ rfl w3.heap.size rfl R ⟨A8, n8, A6, n6, p3.a3, p3.c3⟩ Z9 ?_) | (refine store_cl rfl _ rfl _ _ rfl (w.heap.size + 1) rfl R ⟨A8, n8, A6, n6, p3.a3, p3.c3⟩ rfl cl0 p30 Y9 ?_) | fail)
            refine bodyPost_ret (v := .tuple #[clV R ⟨A8, n8, A6, n6, p3.a3, p3.c3⟩, .int .i64 0]) (res_cl Tryz.results23 _ _ (w.heap.size + 1) R ⟨A8, n8, A6, n6, p3.a3, p3.c3⟩ _ rfl (Y9.out.set) rfl) rfl ⟨?_, below_setRow B9.out (by omega) _⟩
            rw [HN.out.1, HN.out.2]
            exact ⟨_, rfl, AT9.out, CP9.out⟩
set_option maxHeartbeats 16000000 in
set_option maxRecDepth 100000 in
theorem rnarrow_any (c : Cl) (p : P3) (sc au : List ByteArray) (SA AA : Option Addr) (sn an : Nat) (e : Int) (w : World) (hin : ClIn c p) (hC : ClAt w c p) (hSc : Strs w SA sc) (hAu : Strs w AA au) (hsl : sc.length ≤ 9223372036854775807) (hal : au.length ≤ 9223372036854775807) (he : -9223372036854775808 ≤ e ∧ e ≤ 9223372036854775807) :
    Calls Tryz.prog 24 #[clV c p, .slice SA sc.length sn, .slice AA au.length an, .int .i64 e] w fun e' w' => RetCl w' e' (narV c sc au e) (narE c sc au e) ∧ Below w.heap.size w w' := by
  have B1 : Hid (Below w.heap.size w ((w.alloc (clO c p)).alloc (clO cl0 p30))) := Lib.hid (((Below.refl _ _).alloc (Nat.le_refl _) _).alloc (by simp) _)
  have X1 : Hid (ClBox ((w.alloc (clO c p)).alloc (clO cl0 p30)) w.heap.size c p) := Lib.hid ((ClBox.new w c p).below ((Below.refl _ _).alloc (Nat.le_refl _) _))
  have Y1 : Hid (ClBox ((w.alloc (clO c p)).alloc (clO cl0 p30)) (w.heap.size + 1) cl0 p30) := Lib.hid (by have h := ClBox.new (w.alloc (clO c p)) cl0 p30; simpa using h)
  have HC := Lib.hid hC
  have HI := Lib.hid hin
  have HSC := Lib.hid hSc
  have HAU := Lib.hid hAu
  clear hC hin hSc hAu
  obtain ⟨he1, he2⟩ := he
  obtain ⟨G, HG⟩ : ∃ G, Hid (narE c sc au e = G) := ⟨_, Lib.hid rfl⟩
  obtain ⟨C, HCC⟩ : ∃ C, Hid (narV c sc au e = C) := ⟨_, Lib.hid rfl⟩
  obtain ⟨E, HE⟩ : ∃ E, Hid (checkE c = E) := ⟨_, Lib.hid rfl⟩
  have N0 : Hid (E ≠ 0 → G = E ∧ C = cl0) := Lib.hid (by rw [← HE.out, ← HG.out, ← HCC.out]; exact nar0)
  have N1 : Hid (E = 0 → allIn sc c.sco = false → G = 19 ∧ C = cl0) := Lib.hid (by rw [← HE.out, ← HG.out, ← HCC.out]; exact nar1)
  have N2 : Hid (E = 0 → allIn sc c.sco = true → (au.length = 0 ∨ allIn au c.aud = false) → G = 15 ∧ C = cl0) := Lib.hid (by rw [← HE.out, ← HG.out, ← HCC.out]; exact nar2)
  have N3 : Hid (E = 0 → allIn sc c.sco = true → au.length ≠ 0 → allIn au c.aud = true → (c.exp < limT e ∨ limT e < c.issued ∨ limT e < c.nb) → G = 27 ∧ C = cl0) := Lib.hid (by rw [← HE.out, ← HG.out, ← HCC.out]; exact nar3)
  have N4 : Hid (E = 0 → allIn sc c.sco = true → au.length ≠ 0 → allIn au c.aud = true → ¬ (c.exp < limT e ∨ limT e < c.issued ∨ limT e < c.nb) → G = 0 ∧ C = narC c sc au e) := Lib.hid (by rw [← HE.out, ← HG.out, ← HCC.out]; exact nar4)
  rw [HG.out, HCC.out]
  clear HG HCC
  go_enter Tryz.func24, Tryz.ntmps24
  go_wp2_with (first | (refine box_cl rfl _ rfl _ rfl c p rfl ?_) | (refine alloc_cl rfl _ rfl rfl ?_) | (refine load_cl rfl _ rfl _ rfl w.heap.size rfl c p X1 ?_) | fail)
  refine (rcheck_any c p _ HI.out (HC.out.below B1.out)).mono ?_
  rintro e0 w2 ⟨rfl, hb2⟩
  rw [HE.out]
  have hz2 : w.heap.size + 2 ≤ w2.heap.size := by have := hb2.size; simp at this; omega
  have B2 := Lib.hid (bthen B1.out hb2)
  have X2 := Lib.hid (X1.out.below hb2)
  have Y2 := Lib.hid (Y1.out.below hb2)
  clear hb2 B1 X1 Y1
  by_cases h0 : ¬ E = 0
  · have t0 : (E != 0) = true := by rw [bne_iff_ne]; exact h0
    have HN := Lib.hid (N0.out h0)
    clear h0
    go_wp2_with (first | (refine build_cl rfl _ rfl rfl ?_) | (refine store_cl rfl _ rfl _ _ rfl (w.heap.size + 1) rfl cl0 p30 rfl cl0 p30 Y2 ?_) | fail)
    refine bodyPost_ret (v := .tuple #[clV cl0 p30, .int .i64 E]) (res_cl Tryz.results24 _ _ (w.heap.size + 1) cl0 p30 _ rfl (Y2.out.set) rfl) rfl ⟨RetCl.zero _ HN.out, below_setRow B2.out (by omega) _⟩
  · have h0 := Decidable.not_not.1 h0
    have t0 : (E != 0) = false := by rw [h0]; rfl
    have H0 := Lib.hid h0
    have HSM : Hid (ClSmall c) := Lib.hid (check_small (HE.out.trans h0))
    have N1b := Lib.hid (N1.out h0)
    have N2b := Lib.hid (N2.out h0)
    have N3b := Lib.hid (N3.out h0)
    have N4b := Lib.hid (N4.out h0)
    clear h0 N0 N1 N2 N3 N4
    have x9 := X2.out.cells.2.2.2.2.2.2.2.2.2.1
    have hl2 := HSM.out.l2
    have hl1 := HSM.out.l1
    obtain ⟨M1, HM1⟩ : ∃ M, Hid (allIn sc c.sco = M) := ⟨_, Lib.hid rfl⟩
    obtain ⟨M2, HM2⟩ : ∃ M, Hid (allIn au c.aud = M) := ⟨_, Lib.hid rfl⟩
    rw [HM1.out] at N1b N2b N3b N4b
    rw [HM2.out] at N2b N3b N4b
    go_wp2_with fail
    refine (among_any c.sco sc p.a2 SA p.c2 sn _ (HC.out.below B2.out).sco (HSC.out.below B2.out) hsl (by omega)).mono ?_
    rintro e0 w6 ⟨⟨v6, rfl, ho6⟩, hb6⟩
    have hz6 : w2.heap.size ≤ w6.heap.size := hb6.size
    obtain ⟨A6, n6, rfl, hO6⟩ := OwnS.form (l := amongL c.sco sc) ho6 rfl
    have T6 : Hid (StrsN w6 A6 (amongL c.sco sc) (fun i => i = w.heap.size + 1 ∨ i = w.heap.size)) := Lib.hid (hO6.new (fun i hi => by rcases hi with h | h <;> omega))
    have HC6 := Lib.hid hO6.strs.2.1
    have B6 := Lib.hid (bthen B2.out hb6)
    have X6 := Lib.hid (X2.out.below hb6)
    have Y6 := Lib.hid (Y2.out.below hb6)
    rw [HM1.out]
    clear x9 ho6 hb6 hO6 X2 Y2
    obtain ⟨l6, HL6⟩ : ∃ l, Hid ((amongL c.sco sc).length = l) := ⟨_, Lib.hid rfl⟩
    rw [HL6.out]
    cases M1 with
    | false =>
      have HN := Lib.hid (N1b.out (by trivial))
      go_wp2_with (first | (refine build_cl rfl _ rfl rfl ?_) | (refine store_cl rfl _ rfl _ _ rfl (w.heap.size + 1) rfl cl0 p30 rfl cl0 p30 Y6 ?_) | fail)
      refine bodyPost_ret (v := .tuple #[clV cl0 p30, .int .i64 19]) (res_cl Tryz.results24 _ _ (w.heap.size + 1) cl0 p30 _ rfl (Y6.out.set) rfl) rfl ⟨RetCl.zero _ HN.out, below_setRow B6.out (by omega) _⟩
    | true =>
      have x8 := X6.out.cells.2.2.2.2.2.2.2.2.1
      go_wp2_with fail
      refine (among_any c.aud au p.a1 AA p.c1 an _ (HC.out.below B6.out).aud (HAU.out.below B6.out) hal (by omega)).mono ?_
      rintro e0 w8 ⟨⟨v8, rfl, ho8⟩, hb8⟩
      have hz8 : w6.heap.size ≤ w8.heap.size := hb8.size
      obtain ⟨A8, n8, rfl, hO8⟩ := OwnS.form (l := amongL c.aud au) ho8 rfl
      have T8 : Hid (StrsN w8 A8 (amongL c.aud au) (fun i => i = w.heap.size + 1 ∨ i = w.heap.size)) := Lib.hid (hO8.new (fun i hi => by rcases hi with h | h <;> omega))
      have HC8 := Lib.hid hO8.strs.2.1
      have B8 := Lib.hid (bthen B6.out hb8)
      have X8 := Lib.hid (X6.out.below hb8)
      have Y8 := Lib.hid (Y6.out.below hb8)
      have T6b := Lib.hid (T6.out.below hb8)
      have TA8 : Hid (StrsN w8 p.a3 c.act (fun i => i = w.heap.size + 1 ∨ i = w.heap.size)) := Lib.hid ((HC.out.act.old (fun i hi => by rcases hi with h | h <;> omega)).below B8.out)
      rw [HM2.out]
      clear x8 ho8 hb8 hO8 X6 Y6 T6
      obtain ⟨l8, HL8⟩ : ∃ l, Hid ((amongL c.aud au).length = l) := ⟨_, Lib.hid rfl⟩
      rw [HL8.out]
      cases M2 with
      | false =>
        have HN := Lib.hid (N2b.out (by trivial) (.inr (by trivial)))
        go_wp2_with (first | (refine build_cl rfl _ rfl rfl ?_) | (refine store_cl rfl _ rfl _ _ rfl (w.heap.size + 1) rfl cl0 p30 rfl cl0 p30 Y8 ?_) | fail)
        refine bodyPost_ret (v := .tuple #[clV cl0 p30, .int .i64 15]) (res_cl Tryz.results24 _ _ (w.heap.size + 1) cl0 p30 _ rfl (Y8.out.set) rfl) rfl ⟨RetCl.zero _ HN.out, below_setRow B8.out (by omega) _⟩
      | true =>
        by_cases ha0 : au.length = 0
        · have HN := Lib.hid (N2b.out (by trivial) (.inl ha0))
          have t1 : ((au.length : Int) == 0) = true := by rw [beq_iff_eq]; omega
          clear ha0
          go_wp2_with (first | (refine build_cl rfl _ rfl rfl ?_) | (refine store_cl rfl _ rfl _ _ rfl (w.heap.size + 1) rfl cl0 p30 rfl cl0 p30 Y8 ?_) | fail)
          refine bodyPost_ret (v := .tuple #[clV cl0 p30, .int .i64 15]) (res_cl Tryz.results24 _ _ (w.heap.size + 1) cl0 p30 _ rfl (Y8.out.set) rfl) rfl ⟨RetCl.zero _ HN.out, below_setRow B8.out (by omega) _⟩
        · have t1 : ((au.length : Int) == 0) = false := by rw [beq_eq_false_iff_ne]; omega
          have N3c := Lib.hid (N3b.out (by trivial) ha0 (by trivial))
          have N4c := Lib.hid (N4b.out (by trivial) ha0 (by trivial))
          clear N1b N2b N3b N4b ha0
          obtain ⟨_, _, _, _, _, _, _, _, x8, x9, _, x11, x12, x13, _, _⟩ := X8.out.cells
          have hlm := limT_in e
          obtain ⟨L, HL⟩ : ∃ L, Hid (limT e = L) := ⟨_, Lib.hid rfl⟩
          obtain ⟨i1, HI1⟩ : ∃ L, Hid (c.issued = L) := ⟨_, Lib.hid rfl⟩
          obtain ⟨i2, HI2⟩ : ∃ L, Hid (c.nb = L) := ⟨_, Lib.hid rfl⟩
          obtain ⟨i3, HI3⟩ : ∃ L, Hid (c.exp = L) := ⟨_, Lib.hid rfl⟩
          rw [HI1.out] at x11
          rw [HI2.out] at x12
          rw [HI3.out] at x13
          rw [HL.out, HI1.out, HI2.out, HI3.out] at N3c N4c
          rw [HL.out] at hlm
          obtain ⟨hlm1, hlm2⟩ := hlm
          go_wp2_with fail
          refine (limited22_any e _).mono ?_
          rintro e0 wsame ⟨rfl, rfl⟩
          rw [HL.out]
          by_cases hr : i3 < L ∨ L < i1 ∨ L < i2
          · have HN := Lib.hid (N3c.out hr)
            by_cases r1 : i3 < L
            · clear hr
              go_wp2_with (first | (refine build_cl rfl _ rfl rfl ?_) | (refine store_cl rfl _ rfl _ _ rfl (w.heap.size + 1) rfl cl0 p30 rfl cl0 p30 Y8 ?_) | fail)
              refine bodyPost_ret (v := .tuple #[clV cl0 p30, .int .i64 27]) (res_cl Tryz.results24 _ _ (w.heap.size + 1) cl0 p30 _ rfl (Y8.out.set) rfl) rfl ⟨RetCl.zero _ HN.out, below_setRow B8.out (by omega) _⟩
            · by_cases r2 : L < i1
              · clear hr
                go_wp2_with (first | (refine build_cl rfl _ rfl rfl ?_) | (refine store_cl rfl _ rfl _ _ rfl (w.heap.size + 1) rfl cl0 p30 rfl cl0 p30 Y8 ?_) | fail)
                refine bodyPost_ret (v := .tuple #[clV cl0 p30, .int .i64 27]) (res_cl Tryz.results24 _ _ (w.heap.size + 1) cl0 p30 _ rfl (Y8.out.set) rfl) rfl ⟨RetCl.zero _ HN.out, below_setRow B8.out (by omega) _⟩
              · have r3 : L < i2 := by omega
                clear hr
                go_wp2_with (first | (refine build_cl rfl _ rfl rfl ?_) | (refine store_cl rfl _ rfl _ _ rfl (w.heap.size + 1) rfl cl0 p30 rfl cl0 p30 Y8 ?_) | fail)
                refine bodyPost_ret (v := .tuple #[clV cl0 p30, .int .i64 27]) (res_cl Tryz.results24 _ _ (w.heap.size + 1) cl0 p30 _ rfl (Y8.out.set) rfl) rfl ⟨RetCl.zero _ HN.out, below_setRow B8.out (by omega) _⟩
          · have HN := Lib.hid (N4c.out hr)
            have r1 : ¬ i3 < L := by omega
            have r2 : ¬ L < i1 := by omega
            have r3 : ¬ L < i2 := by omega
            clear hr N3c N4c
            have Z9 : Hid (ClBox (((w8.setCell ⟨w.heap.size, 9, none⟩ (.slice A6 l6 n6)).setCell ⟨w.heap.size, 8, none⟩ (.slice A8 l8 n8)).setCell ⟨w.heap.size, 13, none⟩ (.int .i64 L)) w.heap.size (narC c sc au e) ⟨A8, n8, A6, n6, p.a3, p.c3⟩) := Lib.hid (by
              have h := ((X8.out.sco (amongL c.sco sc) A6 n6).aud (amongL c.aud au) A8 n8).exp L
              rw [HL8.out, HL6.out] at h
              rw [narC, HL.out]
              exact h)
            have Y9 : Hid (ClBox (((w8.setCell ⟨w.heap.size, 9, none⟩ (.slice A6 l6 n6)).setCell ⟨w.heap.size, 8, none⟩ (.slice A8 l8 n8)).setCell ⟨w.heap.size, 13, none⟩ (.int .i64 L)) (w.heap.size + 1) cl0 p30) := Lib.hid ((heap_setCell_other _ _ _ _ (by show w.heap.size + 1 ≠ w.heap.size; omega)).trans ((heap_setCell_other _ _ _ _ (by show w.heap.size + 1 ≠ w.heap.size; omega)).trans ((heap_setCell_other _ _ _ _ (by show w.heap.size + 1 ≠ w.heap.size; omega)).trans Y8.out)))
            have B9 : Hid (Below w.heap.size w (((w8.setCell ⟨w.heap.size, 9, none⟩ (.slice A6 l6 n6)).setCell ⟨w.heap.size, 8, none⟩ (.slice A8 l8 n8)).setCell ⟨w.heap.size, 13, none⟩ (.int .i64 L))) := Lib.hid (((B8.out.setCell (Nat.le_refl _) _).setCell (Nat.le_refl _) _).setCell (Nat.le_refl _) _)
            have AT9 : Hid (ClAt ((((w8.setCell ⟨w.heap.size, 9, none⟩ (.slice A6 l6 n6)).setCell ⟨w.heap.size, 8, none⟩ (.slice A8 l8 n8)).setCell ⟨w.heap.size, 13, none⟩ (.int .i64 L)).setRow (w.heap.size + 1) (clA (narC c sc au e) ⟨A8, n8, A6, n6, p.a3, p.c3⟩)) (narC c sc au e) ⟨A8, n8, A6, n6, p.a3, p.c3⟩) := Lib.hid ⟨((((T8.out.setCell (.inr rfl)).setCell (.inr rfl)).setCell (.inr rfl)).setRow (.inl rfl)).s, ((((T6b.out.setCell (.inr rfl)).setCell (.inr rfl)).setCell (.inr rfl)).setRow (.inl rfl)).s, ((((TA8.out.setCell (.inr rfl)).setCell (.inr rfl)).setCell (.inr rfl)).setRow (.inl rfl)).s⟩
            have CP9 : Hid (Caps (narC c sc au e) ⟨A8, n8, A6, n6, p.a3, p.c3⟩) := Lib.hid ⟨HC8.out, HC6.out, HI.out.l3⟩
            have zf0 : w8.frozen? ⟨w.heap.size, 9, none⟩ = false := frozen_of_row w8 w.heap.size 9 _ _ X8.out
            have zf1 : w8.frozen? ⟨w.heap.size, 8, none⟩ = false := frozen_of_row w8 w.heap.size 8 _ _ X8.out
            have zf2 : w8.frozen? ⟨w.heap.size, 13, none⟩ = false := frozen_of_row w8 w.heap.size 13 _ _ X8.out
            clear X8 Y8 T8 T6b TA8
            obtain ⟨R, HR⟩ : ∃ R, Hid (narC c sc au e = R) := ⟨_, Lib.hid rfl⟩
            rw [HR.out] at HN Z9 AT9 CP9
            go_wp2_with (first | (refine load_cl rfl _ rfl _ rfl w.heap.size rfl R ⟨A8, n8, A6, n6, p.a3, p.c3⟩ Z9 ?_) | (refine store_cl rfl _ rfl _ _ rfl (w.heap.size + 1) rfl R ⟨A8, n8, A6, n6, p.a3, p.c3⟩ rfl cl0 p30 Y9 ?_) | fail)
            refine bodyPost_ret (v := .tuple #[clV R ⟨A8, n8, A6, n6, p.a3, p.c3⟩, .int .i64 0]) (res_cl Tryz.results24 _ _ (w.heap.size + 1) R ⟨A8, n8, A6, n6, p.a3, p.c3⟩ _ rfl (Y9.out.set) rfl) rfl ⟨?_, below_setRow B9.out (by omega) _⟩
            rw [HN.out.1, HN.out.2]
            exact ⟨_, rfl, AT9.out, CP9.out⟩
end Go.Proofs.YtpmikpijonccjaaGreatDoor

