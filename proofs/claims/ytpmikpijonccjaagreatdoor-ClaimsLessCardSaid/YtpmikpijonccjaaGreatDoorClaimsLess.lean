/- ClaimsLess: for every claims, lists, number and string the law answers true and leaves its arguments alone; no condition. -/
import Derived.Lay
import Derived.Test.YtpmikpijonccjaaGreatDoorCards
import Derived.Test.YtpmikpijonccjaaGreatDoorTie
import Derived.Test.YtpmikpijonccjaaGreatDoorSeg4
import Derived.Test.YtpmikpijonccjaaGreatDoorSeg10
import Derived.Test.YtpmikpijonccjaaGreatDoorSeg8
import Derived.Test.YtpmikpijonccjaaGreatDoorSeg7
import Derived.Test.YtpmikpijonccjaaGreatDoorSeg9
import Derived.Test.YtpmikpijonccjaaGreatDoorSeg5
import Derived.Test.YtpmikpijonccjaaGreatDoorSeg12
namespace Go.Proofs.YtpmikpijonccjaaGreatDoor.claimsLess
open Go.ChangeShapes Go.WideShapes Go.ChangeAt Go.RowKit
open Go.ChangeMaps (open_string)


theorem ClIn.small {c : Cl} {p : P3} (h : ClSmall c) (hc : Caps c p) : ClIn c p :=
  ⟨by have := h.s0; omega, by have := h.s1; omega, by have := h.s2; omega, by have := h.s3; omega, by have := h.s4; omega, by have := h.s5; omega, by have := h.s6; omega, by have := h.s7; omega, hc.1, hc.2.1, hc.2.2, by have := h.l1; omega, by have := h.l2; omega, by have := h.l3; omega, fun s hs => by have := h.z1 s hs; omega, fun s hs => by have := h.z2 s hs; omega, fun s hs => by have := h.z3 s hs; omega,
    by have := h.i0; omega, by have := h.i1; omega, by have := h.i2; omega, by have := h.i3; omega, by have := h.i4; omega⟩

set_option maxHeartbeats 8000000 in
set_option maxRecDepth 100000 in
theorem walk (c : Cl) (p : P3) (sc au : List ByteArray) (SA AA : Option Addr) (sn an : Nat) (e : Int) (a : ByteArray) (w : World) (hk : KeysOk w) (hp : PowOk w) (hE : ErrsOk w) (hc : ClAt w c p) (ic : ClIn c p) (hSc : Strs w SA sc) (hAu : Strs w AA au) (hsl : sc.length ≤ 9223372036854775807) (hal : au.length ≤ 9223372036854775807) (he : -9223372036854775808 ≤ e ∧ e ≤ 9223372036854775807) :
    Calls Tryz.prog 8 #[clV c p, .slice SA sc.length sn, .slice AA au.length an, .int .i64 e, .string a] w fun e' w' => e' = .returned (.bool true) ∧ Below w.heap.size w w' := by
  have B1 : Hid (Below w.heap.size w (w.alloc (clO c p))) := Lib.hid ((Below.refl _ _).alloc (Nat.le_refl _) _)
  have X1 : Hid (ClBox (w.alloc (clO c p)) w.heap.size c p) := Lib.hid (ClBox.new w c p)
  have A1 := Lib.hid (hc.below B1.out)
  have IC := Lib.hid ic
  have HSC := Lib.hid hSc
  have HAU := Lib.hid hAu
  have A0 := Lib.hid hc
  have bthen0 : ∀ {W : World}, Below w.heap.size w W → Below w.heap.size w W := fun h => h
  clear hc ic hSc hAu
  by_cases hl : lightC c = true
  · have HL := Lib.hid hl
    clear hl
    by_cases hf : fewB sc = true
    · have HF := Lib.hid hf
      clear hf
      by_cases hg : fewB au = true
      · have HG := Lib.hid hg
        clear hg
        by_cases ha : a.size ≤ 300
        · have t1 : decide ((300 : Int) < (a.size : Int)) = false := decide_eq_false (by omega)
          go_enter Tryz.func8, Tryz.ntmps8
          go_wp2_with (first | (refine box_cl rfl _ rfl _ rfl c p rfl ?_) | (refine load_cl rfl _ rfl _ rfl w.heap.size rfl c p X1 ?_) | fail)
          refine (light25_any c p _ A1.out IC.out.m1 IC.out.m2 IC.out.m3).mono ?_
          rintro e' w2 ⟨rfl, hb2⟩
          rw [HL.out]
          have X2 := Lib.hid (X1.out.below hb2)
          have A2 := Lib.hid (A1.out.below hb2)
          have SC2 := Lib.hid (HSC.out.below (bthen B1.out hb2))
          have AU2 := Lib.hid (HAU.out.below (bthen B1.out hb2))
          have B2 := Lib.hid (bthen B1.out hb2)
          clear hb2
          go_wp2_with fail
          refine (few25_any sc SA sn _ SC2.out hsl).mono ?_
          rintro e' wsame ⟨rfl, rfl⟩
          rw [HF.out]
          go_wp2_with fail
          refine (few25_any au AA an _ AU2.out hal).mono ?_
          rintro e' wsame ⟨rfl, rfl⟩
          rw [HG.out]
          go_wp2_with (first | (refine load_cl rfl _ rfl _ rfl w.heap.size rfl c p X2 ?_) | fail)
          clear t1
          refine (narrow_any c p sc au SA AA sn an e _ IC.out A2.out SC2.out AU2.out hsl hal he).mono ?_
          rintro e' w3 ⟨⟨p3, rfl, hat3, hcp3⟩, hb3⟩
          have X3 := Lib.hid (X2.out.below hb3)
          have A3 := Lib.hid (A2.out.below hb3)
          have SC3 := Lib.hid (SC2.out.below hb3)
          have AU3 := Lib.hid (AU2.out.below hb3)
          have B3 := Lib.hid (bthen B2.out hb3)
          clear hb3 X2 A2 SC2 AU2 B2
          have Z3 : Hid (ClBox (w3.alloc (clO cl0 p30)) w3.heap.size cl0 p30) := Lib.hid (ClBox.new _ _ _)
          by_cases hE0 : narE c sc au e = 0
          · obtain ⟨hc0, hn1, _, hn2, hn3, _, _, hV⟩ := nar_ok hE0
            have hck := nar_check hE0
            have hag := nar_again hE0
            have hxe : decide (c.exp < (narC c sc au e).exp) = false := decide_eq_false (by show ¬ c.exp < limT e; omega)
            have hi1 : allIn (narC c sc au e).sco c.sco = true := allIn_of fun x hx => (among_mem hx).1
            have hi2 : allIn (narC c sc au e).sco sc = true := allIn_of fun x hx => (among_mem hx).2
            have hi3 : allIn (narC c sc au e).aud c.aud = true := allIn_of fun x hx => (among_mem hx).1
            have hi4 : allIn (narC c sc au e).aud au = true := allIn_of fun x hx => (among_mem hx).2
            have hwith : withExp (withAud (withSco (narC c sc au e) c.sco) c.aud) c.exp = c := rfl
            have hact : (narC c sc au e).act = c.act := rfl
            have hn1' : narE (narC c sc au e) (narC c sc au e).sco (narC c sc au e).aud (narC c sc au e).exp = 0 := hag.1
            have hn2' : narV (narC c sc au e) (narC c sc au e).sco (narC c sc au e).aud (narC c sc au e).exp = narC c sc au e := hag.2
            clear hag hn1 hn2 hn3
            rw [hV] at hat3 hcp3
            rw [hE0, hV]
            obtain ⟨N, HN⟩ : ∃ N, Hid (narC c sc au e = N) := ⟨_, Lib.hid rfl⟩
            rw [HN.out] at hat3 hcp3 hck hxe hi1 hi2 hi3 hi4 hwith hact hn1' hn2'
            rw [HN.out]
            have SMN := check_small hck
            have IN := Lib.hid (ClIn.small SMN hcp3)
            have AN3 := Lib.hid hat3
            have HI1 := Lib.hid hi1
            have HI2 := Lib.hid hi2
            have HI3 := Lib.hid hi3
            have HI4 := Lib.hid hi4
            have HN1 := Lib.hid hn1'
            have HN2 := Lib.hid hn2'
            have HCK := Lib.hid hck
            have HC0 := Lib.hid hc0
            have HWI := Lib.hid hwith
            have HAC := Lib.hid hact
            have HXE := Lib.hid hxe
            have SMN := Lib.hid SMN
            have X4 := Lib.hid (X3.out.below (below_cl w3 N p3))
            have A4 := Lib.hid (A3.out.below (below_cl w3 N p3))
            have SC4 := Lib.hid (SC3.out.below (below_cl w3 N p3))
            have AU4 := Lib.hid (AU3.out.below (below_cl w3 N p3))
            have B4 := Lib.hid (bthen B3.out (below_cl w3 N p3))
            have BB4 := Lib.hid (below_cl w3 N p3)
            have XN4 := Lib.hid (Z3.out.set (c := N) (p := p3))
            have hg3 : w.heap.size < w3.heap.size := (Array.getElem?_eq_some_iff.1 X3.out).1
            obtain ⟨g3, HG3⟩ : ∃ g, Hid (w3.heap.size = g) := ⟨_, Lib.hid rfl⟩
            obtain ⟨w4, HW4⟩ : ∃ W, Hid (((w3.alloc (clO cl0 p30)).setRow w3.heap.size (clA N p3)) = W) := ⟨_, Lib.hid rfl⟩
            rw [HW4.out] at X4 A4 SC4 AU4 B4 BB4 XN4
            rw [HG3.out] at XN4 hg3
            clear hE0 hat3 hcp3 X3 A3 SC3 AU3 B3 hck hi1 hi2 hi3 hi4 hwith hact hn1' hn2' hV hc0 hxe
            go_upto_region 5 with (first
              | (refine alloc_cl rfl _ rfl rfl ?_)
              | (refine store_cl rfl _ rfl _ _ rfl w3.heap.size rfl N p3 rfl cl0 p30 Z3 ?_; rw [HW4.out, HG3.out])
              | fail)
            clear Z3 HW4
            obtain ⟨_, _, _, _, _, _, _, _, x8, x9, _, _, _, x13, _, _⟩ := XN4.out.cells
            go_wp2_with (first | (refine load_cl rfl _ rfl _ rfl g3 rfl N p3 XN4 ?_) | fail)
            refine (narrow_any N p3 N.sco N.aud p3.a2 p3.a1 p3.c2 p3.c1 N.exp _ IN.out ?_ ?_ ?_ IN.out.m2 IN.out.m1 IN.out.i2).mono ?_
            · exact AN3.out.below BB4.out
            · exact (AN3.out.below BB4.out).sco
            · exact (AN3.out.below BB4.out).aud
            rintro e' w5 ⟨⟨p5, rfl, hat5, hcp5⟩, hb5⟩
            rw [HN1.out]
            rw [HN2.out] at hat5 hcp5
            rw [HN2.out]
            clear x8 x9 x13
            have Z5 : Hid (ClBox (w5.alloc (clO cl0 p30)) w5.heap.size cl0 p30) := Lib.hid (ClBox.new _ _ _)
            have bb5 := bthen hb5 (below_cl w5 N p5)
            have X6 := Lib.hid (X4.out.below bb5)
            have XN6 := Lib.hid (XN4.out.below bb5)
            have XM6 := Lib.hid (Z5.out.set (c := N) (p := p5))
            have SC6 := Lib.hid (SC4.out.below bb5)
            have AU6 := Lib.hid (AU4.out.below bb5)
            have B6 := Lib.hid (bthen B4.out bb5)
            have BB6 := Lib.hid (bthen BB4.out bb5)
            have AM6 := Lib.hid (hat5.below (below_cl w5 N p5))
            have IM := Lib.hid (ClIn.small SMN.out hcp5)
            clear hb5 bb5 hat5 hcp5 X4 A4 XN4 SC4 AU4 B4 BB4
            obtain ⟨g5, HG5⟩ : ∃ g, Hid (w5.heap.size = g) := ⟨_, Lib.hid rfl⟩
            obtain ⟨w6, HW6⟩ : ∃ W, Hid (((w5.alloc (clO cl0 p30)).setRow w5.heap.size (clA N p5)) = W) := ⟨_, Lib.hid rfl⟩
            rw [HW6.out] at X6 XN6 XM6 SC6 AU6 B6 BB6 AM6
            rw [HG5.out] at XM6
            go_wp2_with (first
              | (refine alloc_cl rfl _ rfl rfl ?_)
              | (refine store_cl rfl _ rfl _ _ rfl w5.heap.size rfl N p5 rfl cl0 p30 Z5 ?_; rw [HW6.out, HG5.out])
              | (refine load_cl rfl _ rfl _ rfl g3 rfl N p3 XN6 ?_)
              | fail)
            clear Z5 HW6
            refine (check_any N p3 _ IN.out (AN3.out.below BB6.out)).mono ?_
            rintro e' w7 ⟨rfl, hb7⟩
            rw [HCK.out]
            have X7 := Lib.hid (X6.out.below hb7)
            have XN7 := Lib.hid (XN6.out.below hb7)
            have XM7 := Lib.hid (XM6.out.below hb7)
            have SC7 := Lib.hid (SC6.out.below hb7)
            have AU7 := Lib.hid (AU6.out.below hb7)
            have B7 := Lib.hid (bthen B6.out hb7)
            have BB7 := Lib.hid (bthen BB6.out hb7)
            have AM7 := Lib.hid (AM6.out.below hb7)
            have AN7 := Lib.hid (AN3.out.below BB7.out)
            have AC7 := Lib.hid (A0.out.below B7.out)
            clear hb7 X6 XN6 XM6 SC6 AU6 B6 BB6 AM6
            obtain ⟨_, _, _, _, _, _, _, _, x8, x9, _, _, _, x13, _, _⟩ := XN7.out.cells
            obtain ⟨_, _, _, _, _, _, _, _, y8, y9, _, _, _, y13, _, _⟩ := X7.out.cells
            have hxe := HXE.out
            go_wp2_with fail
            refine (within25_any N.sco c.sco p3.a2 p.a2 p3.c2 p.c2 _ AN7.out.sco AC7.out.sco IC.out.m2 IN.out.m2).mono ?_
            rintro e' wsame ⟨rfl, rfl⟩
            rw [HI1.out]
            go_wp2_with fail
            refine (within25_any N.sco sc p3.a2 SA p3.c2 sn _ AN7.out.sco SC7.out hsl IN.out.m2).mono ?_
            rintro e' wsame ⟨rfl, rfl⟩
            rw [HI2.out]
            go_wp2_with fail
            refine (within25_any N.aud c.aud p3.a1 p.a1 p3.c1 p.c1 _ AN7.out.aud AC7.out.aud IC.out.m1 IN.out.m1).mono ?_
            rintro e' wsame ⟨rfl, rfl⟩
            rw [HI3.out]
            go_wp2_with fail
            refine (within25_any N.aud au p3.a1 AA p3.c1 an _ AN7.out.aud AU7.out hal IN.out.m1).mono ?_
            rintro e' wsame ⟨rfl, rfl⟩
            rw [HI4.out]
            go_wp2_with (first
              | (refine load_cl_g rfl _ rfl _ rfl g3 rfl N p3 XN7 ?_)
              | (refine load_cl_g rfl _ rfl _ rfl g5 rfl N p5 XM7 ?_)
              | fail)
            clear x8 x9 x13 y8 y9 y13 hxe
            refine (equal_any N N p3 p5 _ IN.out IM.out AN7.out AM7.out).mono ?_
            rintro e' w8 ⟨rfl, hb8⟩
            rw [(eqB_iff N N).2 rfl]
            have X8 := X7.out.below hb8
            have XN8 := XN7.out.below hb8
            have B8 := Lib.hid (bthen B7.out hb8)
            have BB8 := Lib.hid (bthen BB7.out hb8)
            clear hb8 X7 XN7 XM7 SC7 AU7 B7 BB7 AM7 AN7 AC7
            obtain ⟨_, _, _, _, _, _, _, _, y8, y9, _, _, _, y13, _, _⟩ := X8.cells
            obtain ⟨_, _, _, _, _, _, _, _, x8, x9, _, _, _, x13, _, _⟩ := XN8.cells
            have f9 : w8.frozen? ⟨g3, 9, none⟩ = false := frozen_of_row w8 g3 9 _ _ XN8
            have hne : w.heap.size ≠ g3 := by omega
            go_upto_region 9 with fail
            have XN9 : ClBox (w8.setCell ⟨g3, 9, none⟩ (.slice p.a2 c.sco.length p.c2)) g3 (withSco N c.sco) ⟨p3.a1, p3.c1, p.a2, p.c2, p3.a3, p3.c3⟩ := XN8.sco c.sco p.a2 p.c2
            have X9 : ClBox (w8.setCell ⟨g3, 9, none⟩ (.slice p.a2 c.sco.length p.c2)) w.heap.size c p := (heap_setCell_other _ ⟨g3, 9, none⟩ w.heap.size _ (by show w.heap.size ≠ g3; omega)).trans X8
            clear y8 y9 y13 x8 x9 x13 f9
            obtain ⟨_, _, _, _, _, _, _, _, y8, _, _, _, _, _, _, _⟩ := X9.cells
            obtain ⟨_, _, _, _, _, _, _, _, x8, _, _, _, _, _, _, _⟩ := XN9.cells
            have f8 := frozen_of_row _ g3 8 _ _ XN9
            go_upto_region 10 with fail
            clear x8 y8 f8
            have XNa : ClBox ((w8.setCell ⟨g3, 9, none⟩ (.slice p.a2 c.sco.length p.c2)).setCell ⟨g3, 8, none⟩ (.slice p.a1 c.aud.length p.c1)) g3 (withAud (withSco N c.sco) c.aud) ⟨p.a1, p.c1, p.a2, p.c2, p3.a3, p3.c3⟩ := XN9.aud c.aud p.a1 p.c1
            have Xa : ClBox ((w8.setCell ⟨g3, 9, none⟩ (.slice p.a2 c.sco.length p.c2)).setCell ⟨g3, 8, none⟩ (.slice p.a1 c.aud.length p.c1)) w.heap.size c p := (heap_setCell_other _ ⟨g3, 8, none⟩ w.heap.size _ (by show w.heap.size ≠ g3; omega)).trans X9
            obtain ⟨_, _, _, _, _, _, _, _, _, _, _, _, _, y13, _, _⟩ := Xa.cells
            obtain ⟨_, _, _, _, _, _, _, _, _, _, _, _, _, x13, _, _⟩ := XNa.cells
            have f13 := frozen_of_row _ g3 13 _ _ XNa
            go_upto_region 11 with fail
            clear x13 y13 f13
            have XNb : Hid (ClBox (((w8.setCell ⟨g3, 9, none⟩ (.slice p.a2 c.sco.length p.c2)).setCell ⟨g3, 8, none⟩ (.slice p.a1 c.aud.length p.c1)).setCell ⟨g3, 13, none⟩ (.int .i64 c.exp)) g3 c ⟨p.a1, p.c1, p.a2, p.c2, p3.a3, p3.c3⟩) := Lib.hid (by have h := XNa.exp c.exp; rwa [HWI.out] at h)
            have Xb : Hid (ClBox (((w8.setCell ⟨g3, 9, none⟩ (.slice p.a2 c.sco.length p.c2)).setCell ⟨g3, 8, none⟩ (.slice p.a1 c.aud.length p.c1)).setCell ⟨g3, 13, none⟩ (.int .i64 c.exp)) w.heap.size c p) := Lib.hid ((heap_setCell_other _ ⟨g3, 13, none⟩ w.heap.size _ (by show w.heap.size ≠ g3; omega)).trans Xa)
            have Bb : Hid (Below w.heap.size w (((w8.setCell ⟨g3, 9, none⟩ (.slice p.a2 c.sco.length p.c2)).setCell ⟨g3, 8, none⟩ (.slice p.a1 c.aud.length p.c1)).setCell ⟨g3, 13, none⟩ (.int .i64 c.exp))) := Lib.hid (((B8.out.setCell (by show w.heap.size ≤ g3; omega) _).setCell (by show w.heap.size ≤ g3; omega) _).setCell (by show w.heap.size ≤ g3; omega) _)
            have BBb : Hid (Below w3.heap.size w3 (((w8.setCell ⟨g3, 9, none⟩ (.slice p.a2 c.sco.length p.c2)).setCell ⟨g3, 8, none⟩ (.slice p.a1 c.aud.length p.c1)).setCell ⟨g3, 13, none⟩ (.int .i64 c.exp))) := Lib.hid (((BB8.out.setCell (by rw [HG3.out]; exact Nat.le_refl _) _).setCell (by rw [HG3.out]; exact Nat.le_refl _) _).setCell (by rw [HG3.out]; exact Nat.le_refl _) _)
            have Ab : Hid (ClAt (((w8.setCell ⟨g3, 9, none⟩ (.slice p.a2 c.sco.length p.c2)).setCell ⟨g3, 8, none⟩ (.slice p.a1 c.aud.length p.c1)).setCell ⟨g3, 13, none⟩ (.int .i64 c.exp)) c p) := Lib.hid (A0.out.below Bb.out)
            have ANb : Hid (ClAt (((w8.setCell ⟨g3, 9, none⟩ (.slice p.a2 c.sco.length p.c2)).setCell ⟨g3, 8, none⟩ (.slice p.a1 c.aud.length p.c1)).setCell ⟨g3, 13, none⟩ (.int .i64 c.exp)) c ⟨p.a1, p.c1, p.a2, p.c2, p3.a3, p3.c3⟩) := Lib.hid ⟨Ab.out.aud, Ab.out.sco, by have := (AN3.out.below BBb.out).act; rwa [HAC.out] at this⟩
            have IF : Hid (ClIn c ⟨p.a1, p.c1, p.a2, p.c2, p3.a3, p3.c3⟩) := Lib.hid (ClIn.small (check_small HC0.out) ⟨IC.out.l1, IC.out.l2, by have := IN.out.l3; rwa [HAC.out] at this⟩)
            clear XN8 X8 XN9 X9 XNa Xa B8 BB8
            go_wp2_with (first
              | (refine load_cl rfl _ rfl _ rfl g3 rfl c ⟨p.a1, p.c1, p.a2, p.c2, p3.a3, p3.c3⟩ XNb ?_)
              | (refine load_cl rfl _ rfl _ rfl w.heap.size rfl c p Xb ?_)
              | fail)
            refine (equal_any c c ⟨p.a1, p.c1, p.a2, p.c2, p3.a3, p3.c3⟩ p _ IF.out IC.out ANb.out Ab.out).mono ?_
            rintro e' w9 ⟨rfl, hb9⟩
            rw [(eqB_iff c c).2 rfl]
            have X9 := Lib.hid (Xb.out.below hb9)
            have A9 := Lib.hid (Ab.out.below hb9)
            have B9 := Lib.hid (bthen Bb.out hb9)
            clear hb9 Xb XNb Ab ANb Bb BBb IF
            go_wp2_with (first | (refine load_cl rfl _ rfl _ rfl w.heap.size rfl c p X9 ?_) | fail)
            refine (act_any c p a _ IC.out A9.out (by omega)).mono ?_
            rintro e' w10 ⟨⟨pm, rfl, hat, hcp⟩, hb10⟩
            have X10 := Lib.hid (X9.out.below hb10)
            have A10 := Lib.hid (A9.out.below hb10)
            have B10 := Lib.hid (bthen B9.out hb10)
            clear hb10 X9 A9 B9
            have Z10 : Hid (ClBox (w10.alloc (clO cl0 p30)) w10.heap.size cl0 p30) := Lib.hid (ClBox.new _ _ _)
            by_cases hG : actEr c a = 0
            · obtain ⟨hc0, _, hL, hV⟩ := act_ok hG
              have hck := act_check hG
              rw [hV] at hat hcp
              rw [hG, hV]
              have hle : (actC c a).act.length = c.act.length + 1 := by simp [actC]
              have hget : (actC c a).act[c.act.length]'(by rw [hle]; omega) = a := by simp [actC]
              obtain ⟨b, o, hA, hcell⟩ := hat.act c.act.length (by rw [hle]; omega)
              rw [hget] at hcell
              have hwith : withAct (actC c a) c.act = c := rfl
              have haud : (actC c a).aud = c.aud := rfl
              have hsco : (actC c a).sco = c.sco := rfl
              obtain ⟨M, HM⟩ : ∃ M, Hid (actC c a = M) := ⟨_, Lib.hid rfl⟩
              rw [HM.out] at hck hat hcp hle hwith haud hsco
              rw [HM.out]
              have BB := below_cl w10 M pm
              have XM := Lib.hid (Z10.out.set (c := M) (p := pm))
              have X := Lib.hid (X10.out.below BB)
              have A := Lib.hid (A10.out.below BB)
              have B := Lib.hid (bthen B10.out BB)
              have AM := Lib.hid hat
              have CM := Lib.hid (hcell)
              have IM := Lib.hid (ClIn.small (check_small hck) hcp)
              have hgw : w.heap.size < w10.heap.size := (Array.getElem?_eq_some_iff.1 X10.out).1
              have HBB := Lib.hid BB
              obtain ⟨g, HG⟩ : ∃ g, Hid (w10.heap.size = g) := ⟨_, Lib.hid rfl⟩
              obtain ⟨W, HW⟩ : ∃ W, Hid (((w10.alloc (clO cl0 p30)).setRow w10.heap.size (clA M pm)) = W) := ⟨_, Lib.hid rfl⟩
              rw [HW.out] at XM X A B HBB
              rw [HG.out] at XM hgw HBB
              clear BB hat hcell hcp X10 A10 B10 hV hG hget
              go_wp2_with (first
                | (refine alloc_cl rfl _ rfl rfl ?_)
                | (refine store_cl rfl _ rfl _ _ rfl w10.heap.size rfl M pm rfl cl0 p30 Z10 ?_; rw [HW.out, HG.out])
                | (refine load_cl rfl _ rfl _ rfl g rfl M pm XM ?_)
                | fail)
              clear Z10 HW
              refine (check_any M pm _ IM.out (AM.out.below (by rw [HG.out]; exact HBB.out))).mono ?_
              rintro e' wu ⟨rfl, hbu⟩
              rw [hck]
              have XMu := XM.out.below hbu
              have Xu := X.out.below hbu
              have Au := Lib.hid (A.out.below hbu)
              have Bu := Lib.hid (bthen B.out hbu)
              have HBu : Below g w10 wu := HBB.out.trans (hbu.mono (by have := (Array.getElem?_eq_some_iff.1 XM.out).1; omega))
              have AMu := AM.out.below (by rw [HG.out]; exact HBu)
              have hcu : wu.cell? ⟨b, o + c.act.length, none⟩ = some (.string a) := (HBu.cell (p := ⟨b, o + c.act.length, none⟩) (by rw [← HG.out]; exact World.block_lt_of_cell? _ _ CM.out)).trans CM.out
              have m10 := XMu.cells.2.2.2.2.2.2.2.2.2.2.1
              have mf10 : wu.frozen? ⟨g, 10, none⟩ = false := frozen_of_row wu g 10 _ _ XMu
              have c10 := Xu.cells.2.2.2.2.2.2.2.2.2.2.1
              have XF : Hid (ClBox (wu.setCell ⟨g, 10, none⟩ (.slice p.a3 c.act.length p.c3)) g c ⟨pm.a1, pm.c1, pm.a2, pm.c2, p.a3, p.c3⟩) := Lib.hid (by have h := XMu.act c.act p.a3 p.c3; rwa [hwith] at h)
              have XG : Hid (ClBox (wu.setCell ⟨g, 10, none⟩ (.slice p.a3 c.act.length p.c3)) w.heap.size c p) := Lib.hid ((heap_setCell_other wu ⟨g, 10, none⟩ w.heap.size _ (by show w.heap.size ≠ g; omega)).trans Xu)
              have BF : Hid (Below w.heap.size w (wu.setCell ⟨g, 10, none⟩ (.slice p.a3 c.act.length p.c3))) := Lib.hid (Bu.out.setCell (by show w.heap.size ≤ g; omega) _)
              have HBF : Below g w10 (wu.setCell ⟨g, 10, none⟩ (.slice p.a3 c.act.length p.c3)) := HBu.setCell (Nat.le_refl _) _
              have AF : Hid (ClAt (wu.setCell ⟨g, 10, none⟩ (.slice p.a3 c.act.length p.c3)) c ⟨pm.a1, pm.c1, pm.a2, pm.c2, p.a3, p.c3⟩) := Lib.hid (by
                have h := AM.out.below (by rw [HG.out]; exact HBF)
                have h2 := A0.out.below (bthen0 BF.out)
                exact ⟨by have := h.aud; rwa [haud] at this, by have := h.sco; rwa [hsco] at this, h2.act⟩)
              have AG : Hid (ClAt (wu.setCell ⟨g, 10, none⟩ (.slice p.a3 c.act.length p.c3)) c p) := Lib.hid (A0.out.below (bthen0 BF.out))
              have IF : Hid (ClIn c ⟨pm.a1, pm.c1, pm.a2, pm.c2, p.a3, p.c3⟩) := Lib.hid (ClIn.small (check_small hc0) ⟨by have := IM.out.l1; rwa [haud] at this, by have := IM.out.l2; rwa [hsco] at this, IC.out.l3⟩)
              rw [hle, hA] at m10
              clear hbu XMu Xu AMu HBu HBF hck hwith haud hsco hA XM X A B AM CM IM HBB Au Bu hle
              go_wp2_with (first
                | (refine load_cl rfl _ rfl _ rfl g rfl c ⟨pm.a1, pm.c1, pm.a2, pm.c2, p.a3, p.c3⟩ XF ?_)
                | (refine load_cl rfl _ rfl _ rfl w.heap.size rfl c p XG ?_)
                | fail)
              clear m10 mf10 c10 hcu
              refine (equal_any c c ⟨pm.a1, pm.c1, pm.a2, pm.c2, p.a3, p.c3⟩ p _ IF.out IC.out AF.out AG.out).mono ?_
              rintro e' wt ⟨rfl, hbt⟩
              rw [(eqB_iff c c).2 rfl]
              have BL := Lib.hid (bthen BF.out hbt)
              clear hbt
              go_wp2_with fail
              refine (awake25_any _ (hk.below BL.out) (hp.below BL.out) (hE.below BL.out)).mono ?_
              rintro e' wz ⟨rfl, hbz⟩
              have BZ := Lib.hid (bthen BL.out hbz)
              clear hbz
              go_wp2_with fail
              go_ret
              exact ⟨rfl, BZ.out⟩
            · obtain ⟨G, HGG⟩ : ∃ G, Hid (actEr c a = G) := ⟨_, Lib.hid rfl⟩
              have een0 : (G != 0) = true := by rw [← HGG.out]; simpa using hG
              rw [HGG.out]
              have BL := Lib.hid (bthen B10.out (below_cl w10 (actV c a) pm))
              obtain ⟨M, HM⟩ : ∃ M, Hid (actV c a = M) := ⟨_, Lib.hid rfl⟩
              rw [HM.out] at BL
              rw [HM.out]
              clear hG hat hcp
              go_wp2_with (first
                | (refine alloc_cl rfl _ rfl rfl ?_)
                | (refine store_cl rfl _ rfl _ _ rfl w10.heap.size rfl M pm rfl cl0 p30 Z10 ?_)
                | fail)
              refine (awake25_any _ (hk.below BL.out) (hp.below BL.out) (hE.below BL.out)).mono ?_
              rintro e' wz ⟨rfl, hbz⟩
              have BZ := Lib.hid (bthen BL.out hbz)
              clear hbz
              go_wp2_with fail
              go_ret
              exact ⟨rfl, BZ.out⟩
          · obtain ⟨E, HEE⟩ : ∃ E, Hid (narE c sc au e = E) := ⟨_, Lib.hid rfl⟩
            have een : (E == 0) = false := by rw [← HEE.out]; simpa using hE0
            rw [HEE.out]
            obtain ⟨N, HN⟩ : ∃ N, Hid (narV c sc au e = N) := ⟨_, Lib.hid rfl⟩
            rw [HN.out]
            have X4 := Lib.hid (X3.out.below (below_cl w3 N p3))
            have A4 := Lib.hid (A3.out.below (below_cl w3 N p3))
            have B4 := Lib.hid (bthen B3.out (below_cl w3 N p3))
            obtain ⟨w4, HW4⟩ : ∃ W, Hid (((w3.alloc (clO cl0 p30)).setRow w3.heap.size (clA N p3)) = W) := ⟨_, Lib.hid rfl⟩
            rw [HW4.out] at X4 A4 B4
            clear hE0 hat3 hcp3 X3 A3 B3
            go_upto_region 13 with (first
              | (refine alloc_cl rfl _ rfl rfl ?_)
              | (refine store_cl rfl _ rfl _ _ rfl w3.heap.size rfl N p3 rfl cl0 p30 Z3 ?_; rw [HW4.out])
              | fail)
            go_wp2_with (first | (refine load_cl rfl _ rfl _ rfl w.heap.size rfl c p X4 ?_) | fail)
            refine (act_any c p a _ IC.out A4.out (by omega)).mono ?_
            rintro e' w5 ⟨⟨pm, rfl, hat, hcp⟩, hb5⟩
            have X5 := Lib.hid (X4.out.below hb5)
            have A5 := Lib.hid (A4.out.below hb5)
            have B5 := Lib.hid (bthen B4.out hb5)
            clear hb5 X4 A4 B4
            have Z5 : Hid (ClBox (w5.alloc (clO cl0 p30)) w5.heap.size cl0 p30) := Lib.hid (ClBox.new _ _ _)
            by_cases hG : actEr c a = 0
            · obtain ⟨hc0, _, hL, hV⟩ := act_ok hG
              have hck := act_check hG
              rw [hV] at hat hcp
              rw [hG, hV]
              have hle : (actC c a).act.length = c.act.length + 1 := by simp [actC]
              have hget : (actC c a).act[c.act.length]'(by rw [hle]; omega) = a := by simp [actC]
              obtain ⟨b, o, hA, hcell⟩ := hat.act c.act.length (by rw [hle]; omega)
              rw [hget] at hcell
              have hwith : withAct (actC c a) c.act = c := rfl
              have haud : (actC c a).aud = c.aud := rfl
              have hsco : (actC c a).sco = c.sco := rfl
              obtain ⟨M, HM⟩ : ∃ M, Hid (actC c a = M) := ⟨_, Lib.hid rfl⟩
              rw [HM.out] at hck hat hcp hle hwith haud hsco
              rw [HM.out]
              have BB := below_cl w5 M pm
              have XM := Lib.hid (Z5.out.set (c := M) (p := pm))
              have X := Lib.hid (X5.out.below BB)
              have A := Lib.hid (A5.out.below BB)
              have B := Lib.hid (bthen B5.out BB)
              have AM := Lib.hid hat
              have CM := Lib.hid (hcell)
              have IM := Lib.hid (ClIn.small (check_small hck) hcp)
              have hgw : w.heap.size < w5.heap.size := (Array.getElem?_eq_some_iff.1 X5.out).1
              have HBB := Lib.hid BB
              obtain ⟨g, HG⟩ : ∃ g, Hid (w5.heap.size = g) := ⟨_, Lib.hid rfl⟩
              obtain ⟨W, HW⟩ : ∃ W, Hid (((w5.alloc (clO cl0 p30)).setRow w5.heap.size (clA M pm)) = W) := ⟨_, Lib.hid rfl⟩
              rw [HW.out] at XM X A B HBB
              rw [HG.out] at XM hgw HBB
              clear BB hat hcell hcp X5 A5 B5 hV hG hget
              go_wp2_with (first
                | (refine alloc_cl rfl _ rfl rfl ?_)
                | (refine store_cl rfl _ rfl _ _ rfl w5.heap.size rfl M pm rfl cl0 p30 Z5 ?_; rw [HW.out, HG.out])
                | (refine load_cl rfl _ rfl _ rfl g rfl M pm XM ?_)
                | fail)
              clear Z5 HW
              refine (check_any M pm _ IM.out (AM.out.below (by rw [HG.out]; exact HBB.out))).mono ?_
              rintro e' wu ⟨rfl, hbu⟩
              rw [hck]
              have XMu := XM.out.below hbu
              have Xu := X.out.below hbu
              have Au := Lib.hid (A.out.below hbu)
              have Bu := Lib.hid (bthen B.out hbu)
              have HBu : Below g w5 wu := HBB.out.trans (hbu.mono (by have := (Array.getElem?_eq_some_iff.1 XM.out).1; omega))
              have AMu := AM.out.below (by rw [HG.out]; exact HBu)
              have hcu : wu.cell? ⟨b, o + c.act.length, none⟩ = some (.string a) := (HBu.cell (p := ⟨b, o + c.act.length, none⟩) (by rw [← HG.out]; exact World.block_lt_of_cell? _ _ CM.out)).trans CM.out
              have m10 := XMu.cells.2.2.2.2.2.2.2.2.2.2.1
              have mf10 : wu.frozen? ⟨g, 10, none⟩ = false := frozen_of_row wu g 10 _ _ XMu
              have c10 := Xu.cells.2.2.2.2.2.2.2.2.2.2.1
              have XF : Hid (ClBox (wu.setCell ⟨g, 10, none⟩ (.slice p.a3 c.act.length p.c3)) g c ⟨pm.a1, pm.c1, pm.a2, pm.c2, p.a3, p.c3⟩) := Lib.hid (by have h := XMu.act c.act p.a3 p.c3; rwa [hwith] at h)
              have XG : Hid (ClBox (wu.setCell ⟨g, 10, none⟩ (.slice p.a3 c.act.length p.c3)) w.heap.size c p) := Lib.hid ((heap_setCell_other wu ⟨g, 10, none⟩ w.heap.size _ (by show w.heap.size ≠ g; omega)).trans Xu)
              have BF : Hid (Below w.heap.size w (wu.setCell ⟨g, 10, none⟩ (.slice p.a3 c.act.length p.c3))) := Lib.hid (Bu.out.setCell (by show w.heap.size ≤ g; omega) _)
              have HBF : Below g w5 (wu.setCell ⟨g, 10, none⟩ (.slice p.a3 c.act.length p.c3)) := HBu.setCell (Nat.le_refl _) _
              have AF : Hid (ClAt (wu.setCell ⟨g, 10, none⟩ (.slice p.a3 c.act.length p.c3)) c ⟨pm.a1, pm.c1, pm.a2, pm.c2, p.a3, p.c3⟩) := Lib.hid (by
                have h := AM.out.below (by rw [HG.out]; exact HBF)
                have h2 := A0.out.below (bthen0 BF.out)
                exact ⟨by have := h.aud; rwa [haud] at this, by have := h.sco; rwa [hsco] at this, h2.act⟩)
              have AG : Hid (ClAt (wu.setCell ⟨g, 10, none⟩ (.slice p.a3 c.act.length p.c3)) c p) := Lib.hid (A0.out.below (bthen0 BF.out))
              have IF : Hid (ClIn c ⟨pm.a1, pm.c1, pm.a2, pm.c2, p.a3, p.c3⟩) := Lib.hid (ClIn.small (check_small hc0) ⟨by have := IM.out.l1; rwa [haud] at this, by have := IM.out.l2; rwa [hsco] at this, IC.out.l3⟩)
              rw [hle, hA] at m10
              clear hbu XMu Xu AMu HBu HBF hck hwith haud hsco hA XM X A B AM CM IM HBB Au Bu hle
              go_wp2_with (first
                | (refine load_cl rfl _ rfl _ rfl g rfl c ⟨pm.a1, pm.c1, pm.a2, pm.c2, p.a3, p.c3⟩ XF ?_)
                | (refine load_cl rfl _ rfl _ rfl w.heap.size rfl c p XG ?_)
                | fail)
              clear m10 mf10 c10 hcu
              refine (equal_any c c ⟨pm.a1, pm.c1, pm.a2, pm.c2, p.a3, p.c3⟩ p _ IF.out IC.out AF.out AG.out).mono ?_
              rintro e' wt ⟨rfl, hbt⟩
              rw [(eqB_iff c c).2 rfl]
              have BL := Lib.hid (bthen BF.out hbt)
              clear hbt
              go_wp2_with fail
              refine (awake25_any _ (hk.below BL.out) (hp.below BL.out) (hE.below BL.out)).mono ?_
              rintro e' wz ⟨rfl, hbz⟩
              have BZ := Lib.hid (bthen BL.out hbz)
              clear hbz
              go_wp2_with fail
              go_ret
              exact ⟨rfl, BZ.out⟩
            · obtain ⟨G, HGG⟩ : ∃ G, Hid (actEr c a = G) := ⟨_, Lib.hid rfl⟩
              have een0 : (G != 0) = true := by rw [← HGG.out]; simpa using hG
              rw [HGG.out]
              have BL := Lib.hid (bthen B5.out (below_cl w5 (actV c a) pm))
              obtain ⟨M, HM⟩ : ∃ M, Hid (actV c a = M) := ⟨_, Lib.hid rfl⟩
              rw [HM.out] at BL
              rw [HM.out]
              clear hG hat hcp
              go_wp2_with (first
                | (refine alloc_cl rfl _ rfl rfl ?_)
                | (refine store_cl rfl _ rfl _ _ rfl w5.heap.size rfl M pm rfl cl0 p30 Z5 ?_)
                | fail)
              refine (awake25_any _ (hk.below BL.out) (hp.below BL.out) (hE.below BL.out)).mono ?_
              rintro e' wz ⟨rfl, hbz⟩
              have BZ := Lib.hid (bthen BL.out hbz)
              clear hbz
              go_wp2_with fail
              go_ret
              exact ⟨rfl, BZ.out⟩
        · have t1 : decide ((300 : Int) < (a.size : Int)) = true := decide_eq_true (by omega)
          clear ha
          go_enter Tryz.func8, Tryz.ntmps8
          go_wp2_with (first | (refine box_cl rfl _ rfl _ rfl c p rfl ?_) | (refine load_cl rfl _ rfl _ rfl w.heap.size rfl c p X1 ?_) | fail)
          refine (light25_any c p _ A1.out IC.out.m1 IC.out.m2 IC.out.m3).mono ?_
          rintro e' w2 ⟨rfl, hb2⟩
          rw [HL.out]
          have X2 := Lib.hid (X1.out.below hb2)
          have A2 := Lib.hid (A1.out.below hb2)
          have SC2 := Lib.hid (HSC.out.below (bthen B1.out hb2))
          have AU2 := Lib.hid (HAU.out.below (bthen B1.out hb2))
          have B2 := Lib.hid (bthen B1.out hb2)
          clear hb2
          go_wp2_with fail
          refine (few25_any sc SA sn _ SC2.out hsl).mono ?_
          rintro e' wsame ⟨rfl, rfl⟩
          rw [HF.out]
          go_wp2_with fail
          refine (few25_any au AA an _ AU2.out hal).mono ?_
          rintro e' wsame ⟨rfl, rfl⟩
          rw [HG.out]
          have BL := B2
          go_wp2_with fail
          refine (awake25_any _ (hk.below BL.out) (hp.below BL.out) (hE.below BL.out)).mono ?_
          rintro e' wz ⟨rfl, hbz⟩
          have BZ := Lib.hid (bthen BL.out hbz)
          clear hbz
          go_wp2_with fail
          go_ret
          exact ⟨rfl, BZ.out⟩
      · have HG : Hid (fewB au = false) := Lib.hid (by simpa using hg)
        clear hg
        go_enter Tryz.func8, Tryz.ntmps8
        go_wp2_with (first | (refine box_cl rfl _ rfl _ rfl c p rfl ?_) | (refine load_cl rfl _ rfl _ rfl w.heap.size rfl c p X1 ?_) | fail)
        refine (light25_any c p _ A1.out IC.out.m1 IC.out.m2 IC.out.m3).mono ?_
        rintro e' w2 ⟨rfl, hb2⟩
        rw [HL.out]
        have X2 := Lib.hid (X1.out.below hb2)
        have A2 := Lib.hid (A1.out.below hb2)
        have SC2 := Lib.hid (HSC.out.below (bthen B1.out hb2))
        have AU2 := Lib.hid (HAU.out.below (bthen B1.out hb2))
        have B2 := Lib.hid (bthen B1.out hb2)
        clear hb2
        go_wp2_with fail
        refine (few25_any sc SA sn _ SC2.out hsl).mono ?_
        rintro e' wsame ⟨rfl, rfl⟩
        rw [HF.out]
        go_wp2_with fail
        refine (few25_any au AA an _ AU2.out hal).mono ?_
        rintro e' wsame ⟨rfl, rfl⟩
        rw [HG.out]
        have BL := B2
        go_wp2_with fail
        refine (awake25_any _ (hk.below BL.out) (hp.below BL.out) (hE.below BL.out)).mono ?_
        rintro e' wz ⟨rfl, hbz⟩
        have BZ := Lib.hid (bthen BL.out hbz)
        clear hbz
        go_wp2_with fail
        go_ret
        exact ⟨rfl, BZ.out⟩
    · have HF : Hid (fewB sc = false) := Lib.hid (by simpa using hf)
      clear hf
      go_enter Tryz.func8, Tryz.ntmps8
      go_wp2_with (first | (refine box_cl rfl _ rfl _ rfl c p rfl ?_) | (refine load_cl rfl _ rfl _ rfl w.heap.size rfl c p X1 ?_) | fail)
      refine (light25_any c p _ A1.out IC.out.m1 IC.out.m2 IC.out.m3).mono ?_
      rintro e' w2 ⟨rfl, hb2⟩
      rw [HL.out]
      have X2 := Lib.hid (X1.out.below hb2)
      have A2 := Lib.hid (A1.out.below hb2)
      have SC2 := Lib.hid (HSC.out.below (bthen B1.out hb2))
      have AU2 := Lib.hid (HAU.out.below (bthen B1.out hb2))
      have B2 := Lib.hid (bthen B1.out hb2)
      clear hb2
      go_wp2_with fail
      refine (few25_any sc SA sn _ SC2.out hsl).mono ?_
      rintro e' wsame ⟨rfl, rfl⟩
      rw [HF.out]
      have BL := B2
      go_wp2_with fail
      refine (awake25_any _ (hk.below BL.out) (hp.below BL.out) (hE.below BL.out)).mono ?_
      rintro e' wz ⟨rfl, hbz⟩
      have BZ := Lib.hid (bthen BL.out hbz)
      clear hbz
      go_wp2_with fail
      go_ret
      exact ⟨rfl, BZ.out⟩
  · have HL : Hid (lightC c = false) := Lib.hid (by simpa using hl)
    clear hl
    go_enter Tryz.func8, Tryz.ntmps8
    go_wp2_with (first | (refine box_cl rfl _ rfl _ rfl c p rfl ?_) | (refine load_cl rfl _ rfl _ rfl w.heap.size rfl c p X1 ?_) | fail)
    refine (light25_any c p _ A1.out IC.out.m1 IC.out.m2 IC.out.m3).mono ?_
    rintro e' w2 ⟨rfl, hb2⟩
    rw [HL.out]
    have BL := Lib.hid (bthen B1.out hb2)
    clear hb2
    go_wp2_with fail
    refine (awake25_any _ (hk.below BL.out) (hp.below BL.out) (hE.below BL.out)).mono ?_
    rintro e' wz ⟨rfl, hbz⟩
    have BZ := Lib.hid (bthen BL.out hbz)
    clear hbz
    go_wp2_with fail
    go_ret
    exact ⟨rfl, BZ.out⟩

set_option maxRecDepth 100000 in
/-- What the walk gives, for every argument and every world that holds the listed variables. -/
theorem contract (H : Type) (enc : TypeId × Value → H) (W : World) (base : Nat) (args : Array Value) (ds gs : List (DataW H)) (before : List MemPlace)
    (hval : ∀ (j : Nat) t v, Tryz.f8.params[j]? = some t → args[j]? = some v → Value.okWide Tryz.prog W .any base t v)
    (hW : DataW.Whole enc Tryz.prog Tryz.f8.params.toList Rows.claimsLessSpec.vars false W args.toList ds gs before) (hL : laidMetH Tryz.prog Rows.claimsLessRow.laid W) :
    Calls Tryz.prog 8 args W fun e W' => ∃ v, e = .returned v ∧ Rows.claimsLessSpec.post enc Tryz.prog Tryz.f8 false true false false W args v W' := by
  have hW' := hW
  obtain ⟨p, q, hA0, hV, rfl, hfz, hnd⟩ := hW
  obtain ⟨rfl, rfl⟩ := trodVars_none hV
  have hA1 : DataW.TrodAll enc Tryz.prog W 0 (fun _ => true) true Tryz.f8.params.toList args.toList ds (p ++ []) := by rw [List.append_nil]; exact hA0
  have hA : DataW.TrodAll enc Tryz.prog W 0 (fun _ => true) true Tryz.f8.params.toList args.toList ds p := hA0
  rw [Tryz.params8] at hA hval
  obtain ⟨v0, vs0, d0, ds0, p0, q0, hargs, rfl, rfl, h0, r0⟩ := trodAll_cons hA
  obtain ⟨v1, vs1, d1, ds1, p1, q1, rfl, rfl, rfl, h1, r1⟩ := trodAll_cons r0
  obtain ⟨v2, vs2, d2, ds2, p2, q2, rfl, rfl, rfl, h2, r2⟩ := trodAll_cons r1
  obtain ⟨v3, vs3, d3, ds3, p3, q3, rfl, rfl, rfl, h3, r3⟩ := trodAll_cons r2
  obtain ⟨v4, vs4, d4, ds4, p4, q4, rfl, rfl, rfl, h4, r4⟩ := trodAll_cons r3
  obtain ⟨rfl, rfl, rfl⟩ := trodAll_nil r4
  obtain rfl : args = #[v0, v1, v2, v3, v4] := by cases args; simp_all
  obtain ⟨x0, q0, rfl, at0, in0⟩ := open_cl (hval 0 24 v0 rfl rfl) h0
  obtain ⟨A1, l1, c1, rfl, hS1, _, hl1, _⟩ := open_strl Tryz.underlying22 Tryz.underlying9 (by kernel_rfl) (hval 1 22 v1 rfl rfl) h1
  obtain ⟨A2, l2, c2, rfl, hS2, _, hl2, _⟩ := open_strl Tryz.underlying22 Tryz.underlying9 (by kernel_rfl) (hval 2 22 v2 rfl rfl) h2
  obtain ⟨n3, rfl, rfl, rfl, wn3⟩ := open_int Tryz.underlying3 (hval 3 3 v3 rfl rfl) h3
  obtain ⟨lo3, hi3⟩ := bounds_i64 wn3
  obtain ⟨s4, rfl, rfl, rfl, hs4⟩ := open_string Tryz.underlying9 (hval 4 9 v4 rfl rfl) h4
  have hs4 : s4.size ≤ 9223372036854775807 := by unfold maxLen at hs4; exact hs4
  obtain ⟨hk, hp, hE⟩ := laid_tabs hL
  refine (walk x0 q0 l1 l2 A1 A2 c1 c2 n3 s4 W hk hp hE at0 in0 hS1 hS2 hl1 hl2 ⟨lo3, hi3⟩).mono fun e W' ⟨he, hb⟩ => ?_
  subst he
  exact ⟨_, rfl, law_post laidOut (by kernel_rfl) (by kernel_rfl) Tryz.underlying4 hW' rfl rfl hA1 hb⟩

set_option maxRecDepth 100000 in
theorem reads (w : World) {H : Type} (enc : TypeId × Value → H) : ∃ places, DataW.whole enc Tryz.prog w Tryz.f8.params.toList Rows.claimsLessSpec.vars false #[Value.agg #[.string ByteArray.empty, .string ByteArray.empty, .string ByteArray.empty, .string ByteArray.empty, .string ByteArray.empty, .string ByteArray.empty, .string ByteArray.empty, .string ByteArray.empty, .slice none 0 0, .slice none 0 0, .slice none 0 0, .int .i64 0, .int .i64 0, .int .i64 0, .int .i64 0, .int .i64 0], .slice none 0 0, .slice none 0 0, .int .i64 0, .string ByteArray.empty].toList 8 = some ([.agg [.lit (.string []), .lit (.string []), .lit (.string []), .lit (.string []), .lit (.string []), .lit (.string []), .lit (.string []), .lit (.string []), .nil, .nil, .nil, .lit (.int .i64 0), .lit (.int .i64 0), .lit (.int .i64 0), .lit (.int .i64 0), .lit (.int .i64 0)], .nil, .nil, .lit (.int .i64 0), .lit (.string [])], [], places) :=
  ⟨[], by kernel_rfl⟩
theorem args_ok (w : World) : Input.okWideB Tryz.prog w 8 ⟨#[], #[.agg #[.string ByteArray.empty, .string ByteArray.empty, .string ByteArray.empty, .string ByteArray.empty, .string ByteArray.empty, .string ByteArray.empty, .string ByteArray.empty, .string ByteArray.empty, .slice none 0 0, .slice none 0 0, .slice none 0 0, .int .i64 0, .int .i64 0, .int .i64 0, .int .i64 0, .int .i64 0], .slice none 0 0, .slice none 0 0, .int .i64 0, .string ByteArray.empty], []⟩ = true := by kernel_rfl
set_option maxRecDepth 100000 in
theorem lifted (os : Os) (started : os.Started) (H : Type) (enc : TypeId × Value → H) (F : Stop.Interp) :
    ReturnsInHanded {} Tryz.checked os 8 .any ((OpenSpec.ofChange Rows.claimsLessSpec).preRow enc Tryz.prog Tryz.f8 Rows.claimsLessRow.domain false Rows.claimsLessRow.laid) (((OpenSpec.ofChange Rows.claimsLessSpec).at F).post enc Tryz.prog Tryz.f8 false true false false) := by
  obtain ⟨places, hx⟩ := reads _ enc
  refine returnsInHanded_of_row (C := Tryz.checked) (s := OpenSpec.ofChange Rows.claimsLessSpec) own started (by kernel_rfl) Tryz.func8
    (witness_row_at (enc := enc) (C := Tryz.checked) false (World.laidAll Tryz.prog os laidList) #[.agg #[.string ByteArray.empty, .string ByteArray.empty, .string ByteArray.empty, .string ByteArray.empty, .string ByteArray.empty, .string ByteArray.empty, .string ByteArray.empty, .string ByteArray.empty, .slice none 0 0, .slice none 0 0, .slice none 0 0, .int .i64 0, .int .i64 0, .int .i64 0, .int .i64 0, .int .i64 0], .slice none 0 0, .slice none 0 0, .int .i64 0, .string ByteArray.empty] (World.laidAll_os _ _ _) (w_hv os _) (w_hr os _) (args_ok _)
      (OpenSpec.preRow_of_cond 8 hx (by kernel_rfl) (fun k hk => by cases hk) (by kernel_rfl) (w_laid os _))) ?_
  intro W base args ds gs before hval hW _ _ _ hL _ _
  exact contract H enc W base args ds gs before hval hW hL

theorem said : Rows.ClaimsLessSaid :=
  OpenClaim.holds_of_cond 8 Tryz.f8 rfl rfl rfl rfl rfl rfl rfl ⟨rfl, rfl, rfl, rfl, rfl⟩ rfl rfl rfl rfl rfl (by kernel_rfl) Tryz.func8 (by kernel_rfl)
    (of_decide_eq_true (by kernel_rfl)) (by unfold Func.isWrapper; first | (rw [if_pos (by decide +kernel)]; kernel_rfl) | (rw [if_neg (by decide +kernel)]; exact ⟨rfl, rfl⟩))
    (fun os started H enc _ F => by rw [OpenClaim.pre_eq_preRow]; exact lifted os started H enc F)

theorem plain (f : FuncId) (fn : Func) (hf : Tryz.pinned.checked.prog.funcNamed Rows.claimsLessRow.func = some f) (hfn : Tryz.pinned.checked.prog.funcs[f]? = some fn) :
    true = Tryz.pinned.checked.prog.looks [] ∧ ∀ (j : Nat) t, fn.params[j]? = some t → Tryz.pinned.checked.prog.wantsStandIn t = false := by
  obtain rfl : f = 8 := Option.some.inj ((show Tryz.prog.funcNamed Rows.claimsLessRow.func = some 8 by kernel_rfl).symm.trans hf) |>.symm
  obtain rfl : fn = Tryz.f8 := (Option.some.inj (Tryz.func8.symm.trans hfn)).symm
  refine ⟨by kernel_rfl, fun j t ht => ?_⟩
  rw [Tryz.params8] at ht
  have hm : t ∈ [24, 22, 22, 3, 9] := by simpa using Array.mem_of_getElem? ht
  have hall : ([24, 22, 22, 3, 9].all fun u => !Tryz.prog.wantsStandIn u) = true := by kernel_rfl
  exact (show Tryz.prog.wantsStandIn t = false by simpa using List.all_eq_true.1 hall t hm)

theorem card : Rows.ClaimsLessCardSaid :=
  Claim7.holds_tied_plain_at .later [] _ _ _ _ said (fun _ h => by cases h) (by kernel_rfl) (fun _ h => by cases h) claimsLess_row_tie rfl ⟨rfl, rfl⟩ (by kernel_rfl) rfl plain (by kernel_rfl)
end Go.Proofs.YtpmikpijonccjaaGreatDoor.claimsLess
