/- ClaimsNarrows: for every claims, lists, number and string the law answers true and leaves its arguments alone; no condition. -/
import Derived.Lay
import Derived.Test.YtpmikpijonccjaaGreatDoorCards
import Derived.Test.YtpmikpijonccjaaGreatDoorTie
import Derived.Test.YtpmikpijonccjaaGreatDoorSeg4
import Derived.Test.YtpmikpijonccjaaGreatDoorSeg10
import Derived.Test.YtpmikpijonccjaaGreatDoorSeg8
import Derived.Test.YtpmikpijonccjaaGreatDoorSeg7
import Derived.Test.YtpmikpijonccjaaGreatDoorSeg11
import Derived.Test.YtpmikpijonccjaaGreatDoorSeg12
namespace Go.Proofs.YtpmikpijonccjaaGreatDoor.claimsNarrows
open Go.ChangeShapes Go.WideShapes Go.ChangeAt Go.RowKit
open Go.ChangeMaps (open_string)


theorem narV_small (c : Cl) (sc au : List ByteArray) (e : Int) : SmallL (narV c sc au e) := by
  by_cases h : narE c sc au e = 0
  · rw [(nar_ok h).2.2.2.2.2.2.2]; exact SmallL.of (check_small (nar_check h))
  · rw [narV, if_neg h]; exact ⟨by decide, by decide, by decide⟩
theorem actV_small (c : Cl) (a : ByteArray) : SmallL (actV c a) := by
  by_cases h : actEr c a = 0
  · rw [(act_ok h).2.2.2]; exact SmallL.of (check_small (act_check h))
  · rw [actV, if_neg h]; exact ⟨by decide, by decide, by decide⟩

set_option maxHeartbeats 8000000 in
set_option maxRecDepth 100000 in
theorem walk (c : Cl) (p : P3) (sc au : List ByteArray) (SA AA : Option Addr) (sn an : Nat) (e : Int) (a : ByteArray) (w : World) (hk : KeysOk w) (hp : PowOk w) (hE : ErrsOk w) (hc : ClAt w c p) (ic : ClIn c p) (hSc : Strs w SA sc) (hAu : Strs w AA au) (hsl : sc.length ≤ 9223372036854775807) (hal : au.length ≤ 9223372036854775807) (he : -9223372036854775808 ≤ e ∧ e ≤ 9223372036854775807) :
    Calls Tryz.prog 6 #[clV c p, .slice SA sc.length sn, .slice AA au.length an, .int .i64 e, .string a] w fun e' w' => e' = .returned (.bool true) ∧ Below w.heap.size w w' := by
  have B1 : Hid (Below w.heap.size w (w.alloc (clO c p))) := Lib.hid ((Below.refl _ _).alloc (Nat.le_refl _) _)
  have X1 : Hid (ClBox (w.alloc (clO c p)) w.heap.size c p) := Lib.hid (ClBox.new w c p)
  have A1 := Lib.hid (hc.below B1.out)
  have IC := Lib.hid ic
  have HSC := Lib.hid hSc
  have HAU := Lib.hid hAu
  clear hc ic hSc hAu
  by_cases hl : lightC c = true
  · have HL := Lib.hid hl
    clear hl
    by_cases hf : fewB sc = true
    · have HF := Lib.hid hf
      clear hf
      by_cases hg : fewB au = true
      · have HG := Lib.hid hg
        clear hg
        by_cases ha : a.size ≤ 300
        · have t1 : decide ((300 : Int) < (a.size : Int)) = false := decide_eq_false (by omega)
          go_enter Tryz.func6, Tryz.ntmps6
          go_wp2_with (first | (refine box_cl rfl _ rfl _ rfl c p rfl ?_) | (refine load_cl rfl _ rfl _ rfl w.heap.size rfl c p X1 ?_) | fail)
          refine (light25_any c p _ A1.out IC.out.m1 IC.out.m2 IC.out.m3).mono ?_
          rintro e' w2 ⟨rfl, hb2⟩
          rw [HL.out]
          have X2 := Lib.hid (X1.out.below hb2)
          have A2 := Lib.hid (A1.out.below hb2)
          have SC2 := Lib.hid (HSC.out.below (bthen B1.out hb2))
          have AU2 := Lib.hid (HAU.out.below (bthen B1.out hb2))
          have B2 := Lib.hid (bthen B1.out hb2)
          clear hb2
          go_wp2_with fail
          refine (few25_any sc SA sn _ SC2.out hsl).mono ?_
          rintro e' wsame ⟨rfl, rfl⟩
          rw [HF.out]
          go_wp2_with fail
          refine (few25_any au AA an _ AU2.out hal).mono ?_
          rintro e' wsame ⟨rfl, rfl⟩
          rw [HG.out]
          obtain ⟨N, HN⟩ : ∃ N, Hid (narV c sc au e = N) := ⟨_, Lib.hid rfl⟩
          obtain ⟨M, HM⟩ : ∃ N, Hid (actV c a = N) := ⟨_, Lib.hid rfl⟩
          obtain ⟨E, HEE⟩ : ∃ N, Hid (narE c sc au e = N) := ⟨_, Lib.hid rfl⟩
          obtain ⟨G, HGG⟩ : ∃ N, Hid (actEr c a = N) := ⟨_, Lib.hid rfl⟩
          have SMN : Hid (SmallL N) := Lib.hid (by rw [← HN.out]; exact narV_small c sc au e)
          have SMM : Hid (SmallL M) := Lib.hid (by rw [← HM.out]; exact actV_small c a)
          have een : (E == E) = true := by simp
          have ggn : (G == G) = true := by simp
          have H2 : Hid (Has w2 [(w.heap.size, clO c p)]) := Lib.hid (Has.add (l := []) (fun x hx => by simp at hx) X2.out)
          go_wp2_with (first | (refine load_cl rfl _ rfl _ rfl w.heap.size rfl c p X2 ?_) | fail)
          clear t1
          refine (narrow_any c p sc au SA AA sn an e _ IC.out A2.out SC2.out AU2.out hsl hal he).mono ?_
          rintro e' w3 ⟨⟨p3, rfl, hat, _⟩, hb3⟩
          rw [HEE.out]
          rw [HN.out] at hat
          rw [HN.out]
          have Z3 : Hid (ClBox (w3.alloc (clO cl0 p30)) w3.heap.size cl0 p30) := Lib.hid (ClBox.new _ _ _)
          have A3 := Lib.hid ((A2.out.below hb3).below (below_cl w3 N p3))
          have SC3 := Lib.hid ((SC2.out.below hb3).below (below_cl w3 N p3))
          have AU3 := Lib.hid ((AU2.out.below hb3).below (below_cl w3 N p3))
          have V33 := Lib.hid (hat.below (below_cl w3 N p3))
          have B3 := Lib.hid (bthen B2.out (bthen hb3 (below_cl w3 N p3)))
          have H3 := Lib.hid ((H2.out.below hb3).cl N p3)
          clear hb3 hat A2 SC2 AU2 B2 H2
          obtain ⟨g3, HG3⟩ : ∃ g, Hid (w3.heap.size = g) := ⟨_, Lib.hid rfl⟩
          obtain ⟨W3, HW3⟩ : ∃ W, Hid (((w3.alloc (clO cl0 p30)).setRow w3.heap.size (clA N p3)) = W) := ⟨_, Lib.hid rfl⟩
          rw [HW3.out] at A3 SC3 AU3 B3 H3 V33
          rw [HG3.out] at H3
          have XA : Hid (ClBox W3 w.heap.size c p) := Lib.hid (H3.out.get _ _ (by simp))
          go_wp2_with (first
            | (refine alloc_cl rfl _ rfl rfl ?_)
            | (refine store_cl rfl _ rfl _ _ rfl w3.heap.size rfl N p3 rfl cl0 p30 Z3 ?_; rw [HW3.out, HG3.out])
            | (refine load_cl rfl _ rfl _ rfl w.heap.size rfl c p XA ?_)
            | fail)
          clear XA Z3 HW3
          refine (rnarrow_any c p sc au SA AA sn an e _ IC.out A3.out SC3.out AU3.out hsl hal he).mono ?_
          rintro e' w4 ⟨⟨p4, rfl, hat, _⟩, hb4⟩
          rw [HEE.out]
          rw [HN.out] at hat
          rw [HN.out]
          have Z4 : Hid (ClBox (w4.alloc (clO cl0 p30)) w4.heap.size cl0 p30) := Lib.hid (ClBox.new _ _ _)
          have A4 := Lib.hid ((A3.out.below hb4).below (below_cl w4 N p4))
          have SC4 := Lib.hid ((SC3.out.below hb4).below (below_cl w4 N p4))
          have AU4 := Lib.hid ((AU3.out.below hb4).below (below_cl w4 N p4))
          have V34 := Lib.hid ((V33.out.below hb4).below (below_cl w4 N p4))
          have V44 := Lib.hid (hat.below (below_cl w4 N p4))
          have B4 := Lib.hid (bthen B3.out (bthen hb4 (below_cl w4 N p4)))
          have H4 := Lib.hid ((H3.out.below hb4).cl N p4)
          clear hb4 hat A3 SC3 AU3 B3 H3 V33
          obtain ⟨g4, HG4⟩ : ∃ g, Hid (w4.heap.size = g) := ⟨_, Lib.hid rfl⟩
          obtain ⟨W4, HW4⟩ : ∃ W, Hid (((w4.alloc (clO cl0 p30)).setRow w4.heap.size (clA N p4)) = W) := ⟨_, Lib.hid rfl⟩
          rw [HW4.out] at A4 SC4 AU4 B4 H4 V44 V34
          rw [HG4.out] at H4
          have XA : Hid (ClBox W4 w.heap.size c p) := Lib.hid (H4.out.get _ _ (by simp))
          go_wp2_with (first
            | (refine alloc_cl rfl _ rfl rfl ?_)
            | (refine store_cl rfl _ rfl _ _ rfl w4.heap.size rfl N p4 rfl cl0 p30 Z4 ?_; rw [HW4.out, HG4.out])
            | (refine load_cl rfl _ rfl _ rfl w.heap.size rfl c p XA ?_)
            | fail)
          clear XA Z4 HW4
          refine (act_any c p a _ IC.out A4.out (by omega)).mono ?_
          rintro e' w5 ⟨⟨p5, rfl, hat, _⟩, hb5⟩
          rw [HGG.out]
          rw [HM.out] at hat
          rw [HM.out]
          have Z5 : Hid (ClBox (w5.alloc (clO cl0 p30)) w5.heap.size cl0 p30) := Lib.hid (ClBox.new _ _ _)
          have A5 := Lib.hid ((A4.out.below hb5).below (below_cl w5 M p5))
          have SC5 := Lib.hid ((SC4.out.below hb5).below (below_cl w5 M p5))
          have AU5 := Lib.hid ((AU4.out.below hb5).below (below_cl w5 M p5))
          have V35 := Lib.hid ((V34.out.below hb5).below (below_cl w5 M p5))
          have V45 := Lib.hid ((V44.out.below hb5).below (below_cl w5 M p5))
          have V55 := Lib.hid (hat.below (below_cl w5 M p5))
          have B5 := Lib.hid (bthen B4.out (bthen hb5 (below_cl w5 M p5)))
          have H5 := Lib.hid ((H4.out.below hb5).cl M p5)
          clear hb5 hat A4 SC4 AU4 B4 H4 V34 V44
          obtain ⟨g5, HG5⟩ : ∃ g, Hid (w5.heap.size = g) := ⟨_, Lib.hid rfl⟩
          obtain ⟨W5, HW5⟩ : ∃ W, Hid (((w5.alloc (clO cl0 p30)).setRow w5.heap.size (clA M p5)) = W) := ⟨_, Lib.hid rfl⟩
          rw [HW5.out] at A5 SC5 AU5 B5 H5 V55 V35 V45
          rw [HG5.out] at H5
          have XA : Hid (ClBox W5 w.heap.size c p) := Lib.hid (H5.out.get _ _ (by simp))
          go_wp2_with (first
            | (refine alloc_cl rfl _ rfl rfl ?_)
            | (refine store_cl rfl _ rfl _ _ rfl w5.heap.size rfl M p5 rfl cl0 p30 Z5 ?_; rw [HW5.out, HG5.out])
            | (refine load_cl rfl _ rfl _ rfl w.heap.size rfl c p XA ?_)
            | fail)
          clear XA Z5 HW5
          refine (ract_any c p a _ IC.out A5.out (by omega)).mono ?_
          rintro e' w6 ⟨⟨p6, rfl, hat, _⟩, hb6⟩
          rw [HGG.out]
          rw [HM.out] at hat
          rw [HM.out]
          have Z6 : Hid (ClBox (w6.alloc (clO cl0 p30)) w6.heap.size cl0 p30) := Lib.hid (ClBox.new _ _ _)
          have A6 := Lib.hid ((A5.out.below hb6).below (below_cl w6 M p6))
          have SC6 := Lib.hid ((SC5.out.below hb6).below (below_cl w6 M p6))
          have AU6 := Lib.hid ((AU5.out.below hb6).below (below_cl w6 M p6))
          have V36 := Lib.hid ((V35.out.below hb6).below (below_cl w6 M p6))
          have V46 := Lib.hid ((V45.out.below hb6).below (below_cl w6 M p6))
          have V56 := Lib.hid ((V55.out.below hb6).below (below_cl w6 M p6))
          have V66 := Lib.hid (hat.below (below_cl w6 M p6))
          have B6 := Lib.hid (bthen B5.out (bthen hb6 (below_cl w6 M p6)))
          have H6 := Lib.hid ((H5.out.below hb6).cl M p6)
          clear hb6 hat A5 SC5 AU5 B5 H5 V35 V45 V55
          obtain ⟨g6, HG6⟩ : ∃ g, Hid (w6.heap.size = g) := ⟨_, Lib.hid rfl⟩
          obtain ⟨W6, HW6⟩ : ∃ W, Hid (((w6.alloc (clO cl0 p30)).setRow w6.heap.size (clA M p6)) = W) := ⟨_, Lib.hid rfl⟩
          rw [HW6.out] at A6 SC6 AU6 B6 H6 V66 V36 V46 V56
          rw [HG6.out] at H6
          have XA : Hid (ClBox W6 g3 N p3) := Lib.hid (H6.out.get _ _ (by simp))
          have XB : Hid (ClBox W6 g4 N p4) := Lib.hid (H6.out.get _ _ (by simp))
          go_wp2_with (first
            | (refine alloc_cl rfl _ rfl rfl ?_)
            | (refine store_cl rfl _ rfl _ _ rfl w6.heap.size rfl M p6 rfl cl0 p30 Z6 ?_; rw [HW6.out, HG6.out])
            | (refine load_cl rfl _ rfl _ rfl g3 rfl N p3 XA ?_)
            | (refine load_cl rfl _ rfl _ rfl g4 rfl N p4 XB ?_)
            | fail)
          clear XA XB Z6 HW6
          refine (requal_any N N p3 p4 _ V36.out V46.out SMN.out SMN.out).mono ?_
          rintro e' w7 ⟨rfl, hb7⟩
          rw [(eqB_iff N N).2 rfl]
          have H7 := Lib.hid (H6.out.below hb7)
          have V57 := Lib.hid (V56.out.below hb7)
          have V67 := Lib.hid (V66.out.below hb7)
          have B7 := Lib.hid (bthen B6.out hb7)
          clear hb7 H6 V36 V46 V56 V66 B6 A6 SC6 AU6
          have XA : Hid (ClBox w7 g5 M p5) := Lib.hid (H7.out.get _ _ (by simp))
          have XB : Hid (ClBox w7 g6 M p6) := Lib.hid (H7.out.get _ _ (by simp))
          go_wp2_with (first
            | (refine load_cl_g rfl _ rfl _ rfl g5 rfl M p5 XA ?_)
            | (refine load_cl_g rfl _ rfl _ rfl g6 rfl M p6 XB ?_)
            | fail)
          clear XA XB
          refine (requal_any M M p5 p6 _ V57.out V67.out SMM.out SMM.out).mono ?_
          rintro e' w8 ⟨rfl, hb8⟩
          rw [(eqB_iff M M).2 rfl]
          have BL := Lib.hid (bthen B7.out hb8)
          clear hb8
          go_wp2_with fail
          refine (awake25_any _ (hk.below BL.out) (hp.below BL.out) (hE.below BL.out)).mono ?_
          rintro e' wz ⟨rfl, hbz⟩
          have BZ := Lib.hid (bthen BL.out hbz)
          clear hbz
          go_wp2_with fail
          go_ret
          exact ⟨rfl, BZ.out⟩
        · have t1 : decide ((300 : Int) < (a.size : Int)) = true := decide_eq_true (by omega)
          clear ha
          go_enter Tryz.func6, Tryz.ntmps6
          go_wp2_with (first | (refine box_cl rfl _ rfl _ rfl c p rfl ?_) | (refine load_cl rfl _ rfl _ rfl w.heap.size rfl c p X1 ?_) | fail)
          refine (light25_any c p _ A1.out IC.out.m1 IC.out.m2 IC.out.m3).mono ?_
          rintro e' w2 ⟨rfl, hb2⟩
          rw [HL.out]
          have X2 := Lib.hid (X1.out.below hb2)
          have A2 := Lib.hid (A1.out.below hb2)
          have SC2 := Lib.hid (HSC.out.below (bthen B1.out hb2))
          have AU2 := Lib.hid (HAU.out.below (bthen B1.out hb2))
          have B2 := Lib.hid (bthen B1.out hb2)
          clear hb2
          go_wp2_with fail
          refine (few25_any sc SA sn _ SC2.out hsl).mono ?_
          rintro e' wsame ⟨rfl, rfl⟩
          rw [HF.out]
          go_wp2_with fail
          refine (few25_any au AA an _ AU2.out hal).mono ?_
          rintro e' wsame ⟨rfl, rfl⟩
          rw [HG.out]
          have BL := B2
          go_wp2_with fail
          refine (awake25_any _ (hk.below BL.out) (hp.below BL.out) (hE.below BL.out)).mono ?_
          rintro e' wz ⟨rfl, hbz⟩
          have BZ := Lib.hid (bthen BL.out hbz)
          clear hbz
          go_wp2_with fail
          go_ret
          exact ⟨rfl, BZ.out⟩
      · have HG : Hid (fewB au = false) := Lib.hid (by simpa using hg)
        clear hg
        go_enter Tryz.func6, Tryz.ntmps6
        go_wp2_with (first | (refine box_cl rfl _ rfl _ rfl c p rfl ?_) | (refine load_cl rfl _ rfl _ rfl w.heap.size rfl c p X1 ?_) | fail)
        refine (light25_any c p _ A1.out IC.out.m1 IC.out.m2 IC.out.m3).mono ?_
        rintro e' w2 ⟨rfl, hb2⟩
        rw [HL.out]
        have X2 := Lib.hid (X1.out.below hb2)
        have A2 := Lib.hid (A1.out.below hb2)
        have SC2 := Lib.hid (HSC.out.below (bthen B1.out hb2))
        have AU2 := Lib.hid (HAU.out.below (bthen B1.out hb2))
        have B2 := Lib.hid (bthen B1.out hb2)
        clear hb2
        go_wp2_with fail
        refine (few25_any sc SA sn _ SC2.out hsl).mono ?_
        rintro e' wsame ⟨rfl, rfl⟩
        rw [HF.out]
        go_wp2_with fail
        refine (few25_any au AA an _ AU2.out hal).mono ?_
        rintro e' wsame ⟨rfl, rfl⟩
        rw [HG.out]
        have BL := B2
        go_wp2_with fail
        refine (awake25_any _ (hk.below BL.out) (hp.below BL.out) (hE.below BL.out)).mono ?_
        rintro e' wz ⟨rfl, hbz⟩
        have BZ := Lib.hid (bthen BL.out hbz)
        clear hbz
        go_wp2_with fail
        go_ret
        exact ⟨rfl, BZ.out⟩
    · have HF : Hid (fewB sc = false) := Lib.hid (by simpa using hf)
      clear hf
      go_enter Tryz.func6, Tryz.ntmps6
      go_wp2_with (first | (refine box_cl rfl _ rfl _ rfl c p rfl ?_) | (refine load_cl rfl _ rfl _ rfl w.heap.size rfl c p X1 ?_) | fail)
      refine (light25_any c p _ A1.out IC.out.m1 IC.out.m2 IC.out.m3).mono ?_
      rintro e' w2 ⟨rfl, hb2⟩
      rw [HL.out]
      have X2 := Lib.hid (X1.out.below hb2)
      have A2 := Lib.hid (A1.out.below hb2)
      have SC2 := Lib.hid (HSC.out.below (bthen B1.out hb2))
      have AU2 := Lib.hid (HAU.out.below (bthen B1.out hb2))
      have B2 := Lib.hid (bthen B1.out hb2)
      clear hb2
      go_wp2_with fail
      refine (few25_any sc SA sn _ SC2.out hsl).mono ?_
      rintro e' wsame ⟨rfl, rfl⟩
      rw [HF.out]
      have BL := B2
      go_wp2_with fail
      refine (awake25_any _ (hk.below BL.out) (hp.below BL.out) (hE.below BL.out)).mono ?_
      rintro e' wz ⟨rfl, hbz⟩
      have BZ := Lib.hid (bthen BL.out hbz)
      clear hbz
      go_wp2_with fail
      go_ret
      exact ⟨rfl, BZ.out⟩
  · have HL : Hid (lightC c = false) := Lib.hid (by simpa using hl)
    clear hl
    go_enter Tryz.func6, Tryz.ntmps6
    go_wp2_with (first | (refine box_cl rfl _ rfl _ rfl c p rfl ?_) | (refine load_cl rfl _ rfl _ rfl w.heap.size rfl c p X1 ?_) | fail)
    refine (light25_any c p _ A1.out IC.out.m1 IC.out.m2 IC.out.m3).mono ?_
    rintro e' w2 ⟨rfl, hb2⟩
    rw [HL.out]
    have BL := Lib.hid (bthen B1.out hb2)
    clear hb2
    go_wp2_with fail
    refine (awake25_any _ (hk.below BL.out) (hp.below BL.out) (hE.below BL.out)).mono ?_
    rintro e' wz ⟨rfl, hbz⟩
    have BZ := Lib.hid (bthen BL.out hbz)
    clear hbz
    go_wp2_with fail
    go_ret
    exact ⟨rfl, BZ.out⟩

set_option maxRecDepth 100000 in
/-- What the walk gives, for every argument and every world that holds the listed variables. -/
theorem contract (H : Type) (enc : TypeId × Value → H) (W : World) (base : Nat) (args : Array Value) (ds gs : List (DataW H)) (before : List MemPlace)
    (hval : ∀ (j : Nat) t v, Tryz.f6.params[j]? = some t → args[j]? = some v → Value.okWide Tryz.prog W .any base t v)
    (hW : DataW.Whole enc Tryz.prog Tryz.f6.params.toList Rows.claimsNarrowsSpec.vars false W args.toList ds gs before) (hL : laidMetH Tryz.prog Rows.claimsNarrowsRow.laid W) :
    Calls Tryz.prog 6 args W fun e W' => ∃ v, e = .returned v ∧ Rows.claimsNarrowsSpec.post enc Tryz.prog Tryz.f6 false true false false W args v W' := by
  have hW' := hW
  obtain ⟨p, q, hA0, hV, rfl, hfz, hnd⟩ := hW
  obtain ⟨rfl, rfl⟩ := trodVars_none hV
  have hA1 : DataW.TrodAll enc Tryz.prog W 0 (fun _ => true) true Tryz.f6.params.toList args.toList ds (p ++ []) := by rw [List.append_nil]; exact hA0
  have hA : DataW.TrodAll enc Tryz.prog W 0 (fun _ => true) true Tryz.f6.params.toList args.toList ds p := hA0
  rw [Tryz.params6] at hA hval
  obtain ⟨v0, vs0, d0, ds0, p0, q0, hargs, rfl, rfl, h0, r0⟩ := trodAll_cons hA
  obtain ⟨v1, vs1, d1, ds1, p1, q1, rfl, rfl, rfl, h1, r1⟩ := trodAll_cons r0
  obtain ⟨v2, vs2, d2, ds2, p2, q2, rfl, rfl, rfl, h2, r2⟩ := trodAll_cons r1
  obtain ⟨v3, vs3, d3, ds3, p3, q3, rfl, rfl, rfl, h3, r3⟩ := trodAll_cons r2
  obtain ⟨v4, vs4, d4, ds4, p4, q4, rfl, rfl, rfl, h4, r4⟩ := trodAll_cons r3
  obtain ⟨rfl, rfl, rfl⟩ := trodAll_nil r4
  obtain rfl : args = #[v0, v1, v2, v3, v4] := by cases args; simp_all
  obtain ⟨x0, q0, rfl, at0, in0⟩ := open_cl (hval 0 24 v0 rfl rfl) h0
  obtain ⟨A1, l1, c1, rfl, hS1, _, hl1, _⟩ := open_strl Tryz.underlying22 Tryz.underlying9 (by kernel_rfl) (hval 1 22 v1 rfl rfl) h1
  obtain ⟨A2, l2, c2, rfl, hS2, _, hl2, _⟩ := open_strl Tryz.underlying22 Tryz.underlying9 (by kernel_rfl) (hval 2 22 v2 rfl rfl) h2
  obtain ⟨n3, rfl, rfl, rfl, wn3⟩ := open_int Tryz.underlying3 (hval 3 3 v3 rfl rfl) h3
  obtain ⟨lo3, hi3⟩ := bounds_i64 wn3
  obtain ⟨s4, rfl, rfl, rfl, hs4⟩ := open_string Tryz.underlying9 (hval 4 9 v4 rfl rfl) h4
  have hs4 : s4.size ≤ 9223372036854775807 := by unfold maxLen at hs4; exact hs4
  obtain ⟨hk, hp, hE⟩ := laid_tabs hL
  refine (walk x0 q0 l1 l2 A1 A2 c1 c2 n3 s4 W hk hp hE at0 in0 hS1 hS2 hl1 hl2 ⟨lo3, hi3⟩).mono fun e W' ⟨he, hb⟩ => ?_
  subst he
  exact ⟨_, rfl, law_post laidOut (by kernel_rfl) (by kernel_rfl) Tryz.underlying4 hW' rfl rfl hA1 hb⟩

set_option maxRecDepth 100000 in
theorem reads (w : World) {H : Type} (enc : TypeId × Value → H) : ∃ places, DataW.whole enc Tryz.prog w Tryz.f6.params.toList Rows.claimsNarrowsSpec.vars false #[Value.agg #[.string ByteArray.empty, .string ByteArray.empty, .string ByteArray.empty, .string ByteArray.empty, .string ByteArray.empty, .string ByteArray.empty, .string ByteArray.empty, .string ByteArray.empty, .slice none 0 0, .slice none 0 0, .slice none 0 0, .int .i64 0, .int .i64 0, .int .i64 0, .int .i64 0, .int .i64 0], .slice none 0 0, .slice none 0 0, .int .i64 0, .string ByteArray.empty].toList 8 = some ([.agg [.lit (.string []), .lit (.string []), .lit (.string []), .lit (.string []), .lit (.string []), .lit (.string []), .lit (.string []), .lit (.string []), .nil, .nil, .nil, .lit (.int .i64 0), .lit (.int .i64 0), .lit (.int .i64 0), .lit (.int .i64 0), .lit (.int .i64 0)], .nil, .nil, .lit (.int .i64 0), .lit (.string [])], [], places) :=
  ⟨[], by kernel_rfl⟩
theorem args_ok (w : World) : Input.okWideB Tryz.prog w 6 ⟨#[], #[.agg #[.string ByteArray.empty, .string ByteArray.empty, .string ByteArray.empty, .string ByteArray.empty, .string ByteArray.empty, .string ByteArray.empty, .string ByteArray.empty, .string ByteArray.empty, .slice none 0 0, .slice none 0 0, .slice none 0 0, .int .i64 0, .int .i64 0, .int .i64 0, .int .i64 0, .int .i64 0], .slice none 0 0, .slice none 0 0, .int .i64 0, .string ByteArray.empty], []⟩ = true := by kernel_rfl
set_option maxRecDepth 100000 in
theorem lifted (os : Os) (started : os.Started) (H : Type) (enc : TypeId × Value → H) (F : Stop.Interp) :
    ReturnsInHanded {} Tryz.checked os 6 .any ((OpenSpec.ofChange Rows.claimsNarrowsSpec).preRow enc Tryz.prog Tryz.f6 Rows.claimsNarrowsRow.domain false Rows.claimsNarrowsRow.laid) (((OpenSpec.ofChange Rows.claimsNarrowsSpec).at F).post enc Tryz.prog Tryz.f6 false true false false) := by
  obtain ⟨places, hx⟩ := reads _ enc
  refine returnsInHanded_of_row (C := Tryz.checked) (s := OpenSpec.ofChange Rows.claimsNarrowsSpec) own started (by kernel_rfl) Tryz.func6
    (witness_row_at (enc := enc) (C := Tryz.checked) false (World.laidAll Tryz.prog os laidList) #[.agg #[.string ByteArray.empty, .string ByteArray.empty, .string ByteArray.empty, .string ByteArray.empty, .string ByteArray.empty, .string ByteArray.empty, .string ByteArray.empty, .string ByteArray.empty, .slice none 0 0, .slice none 0 0, .slice none 0 0, .int .i64 0, .int .i64 0, .int .i64 0, .int .i64 0, .int .i64 0], .slice none 0 0, .slice none 0 0, .int .i64 0, .string ByteArray.empty] (World.laidAll_os _ _ _) (w_hv os _) (w_hr os _) (args_ok _)
      (OpenSpec.preRow_of_cond 8 hx (by kernel_rfl) (fun k hk => by cases hk) (by kernel_rfl) (w_laid os _))) ?_
  intro W base args ds gs before hval hW _ _ _ hL _ _
  exact contract H enc W base args ds gs before hval hW hL

theorem said : Rows.ClaimsNarrowsSaid :=
  OpenClaim.holds_of_cond 6 Tryz.f6 rfl rfl rfl rfl rfl rfl rfl ⟨rfl, rfl, rfl, rfl, rfl⟩ rfl rfl rfl rfl rfl (by kernel_rfl) Tryz.func6 (by kernel_rfl)
    (of_decide_eq_true (by kernel_rfl)) (by unfold Func.isWrapper; first | (rw [if_pos (by decide +kernel)]; kernel_rfl) | (rw [if_neg (by decide +kernel)]; exact ⟨rfl, rfl⟩))
    (fun os started H enc _ F => by rw [OpenClaim.pre_eq_preRow]; exact lifted os started H enc F)

theorem plain (f : FuncId) (fn : Func) (hf : Tryz.pinned.checked.prog.funcNamed Rows.claimsNarrowsRow.func = some f) (hfn : Tryz.pinned.checked.prog.funcs[f]? = some fn) :
    true = Tryz.pinned.checked.prog.looks [] ∧ ∀ (j : Nat) t, fn.params[j]? = some t → Tryz.pinned.checked.prog.wantsStandIn t = false := by
  obtain rfl : f = 6 := Option.some.inj ((show Tryz.prog.funcNamed Rows.claimsNarrowsRow.func = some 6 by kernel_rfl).symm.trans hf) |>.symm
  obtain rfl : fn = Tryz.f6 := (Option.some.inj (Tryz.func6.symm.trans hfn)).symm
  refine ⟨by kernel_rfl, fun j t ht => ?_⟩
  rw [Tryz.params6] at ht
  have hm : t ∈ [24, 22, 22, 3, 9] := by simpa using Array.mem_of_getElem? ht
  have hall : ([24, 22, 22, 3, 9].all fun u => !Tryz.prog.wantsStandIn u) = true := by kernel_rfl
  exact (show Tryz.prog.wantsStandIn t = false by simpa using List.all_eq_true.1 hall t hm)

theorem card : Rows.ClaimsNarrowsCardSaid :=
  Claim7.holds_tied_plain_at .later [] _ _ _ _ said (fun _ h => by cases h) (by kernel_rfl) (fun _ h => by cases h) claimsNarrows_row_tie rfl ⟨rfl, rfl⟩ (by kernel_rfl) rfl plain (by kernel_rfl)
end Go.Proofs.YtpmikpijonccjaaGreatDoor.claimsNarrows
