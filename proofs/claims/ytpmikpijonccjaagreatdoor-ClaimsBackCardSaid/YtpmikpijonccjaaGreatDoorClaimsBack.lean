/- ClaimsBack: for every claims and every string the law answers true and leaves its arguments alone; no condition. -/
import Derived.Lay
import Derived.Test.YtpmikpijonccjaaGreatDoorCards
import Derived.Test.YtpmikpijonccjaaGreatDoorTie
import Derived.Test.YtpmikpijonccjaaGreatDoorSeg4
import Derived.Test.YtpmikpijonccjaaGreatDoorSeg10
import Derived.Test.YtpmikpijonccjaaGreatDoorSeg6
import Derived.Test.YtpmikpijonccjaaGreatDoorSeg11
import Derived.Test.YtpmikpijonccjaaGreatDoorSeg12
namespace Go.Proofs.YtpmikpijonccjaaGreatDoor.claimsBack
open Go.ChangeShapes Go.WideShapes Go.ChangeAt Go.RowKit
open Go.ChangeMaps (open_string)


set_option maxHeartbeats 8000000 in
set_option maxRecDepth 100000 in
theorem walk (c : Cl) (s : ByteArray) (p : P3) (w : World) (hk : KeysOk w) (hp : PowOk w) (hE : ErrsOk w) (hc : ClAt w c p) (ic : ClIn c p) :
    Calls Tryz.prog 7 #[clV c p, .string s] w fun e w' => e = .returned (.bool true) ∧ Below w.heap.size w w' := by
  have B1 : Hid (Below w.heap.size w (w.alloc (clO c p))) := Lib.hid ((Below.refl _ _).alloc (Nat.le_refl _) _)
  have X1 : Hid (ClBox (w.alloc (clO c p)) w.heap.size c p) := Lib.hid (ClBox.new w c p)
  have A1 := Lib.hid (hc.below B1.out)
  have IC := Lib.hid ic
  clear hc ic
  by_cases hl : lightC c = true
  · have HL := Lib.hid hl
    have LF := Lib.hid (lightC_facts hl)
    clear hl
    by_cases hs : s.size ≤ 5000
    · have t1 : decide ((5000 : Int) < (s.size : Int)) = false := decide_eq_false (by omega)
      by_cases h0 : encE c = 0
      · obtain ⟨T, HT⟩ : ∃ T, Hid (encV c = T) := ⟨_, Lib.hid rfl⟩
        have ID := Lib.hid (isDec_of h0 HT.out)
        go_enter Tryz.func7, Tryz.ntmps7
        go_wp2_with (first | (refine box_cl rfl _ rfl _ rfl c p rfl ?_) | (refine load_cl rfl _ rfl _ rfl w.heap.size rfl c p X1 ?_) | fail)
        refine (light25_any c p _ A1.out IC.out.m1 IC.out.m2 IC.out.m3).mono ?_
        rintro e w2 ⟨rfl, hb2⟩
        rw [HL.out]
        have X2 := Lib.hid (X1.out.below hb2)
        have A2 := Lib.hid (A1.out.below hb2)
        have B2 := Lib.hid (bthen B1.out hb2)
        clear hb2
        go_wp2_with (first | (refine load_cl rfl _ rfl _ rfl w.heap.size rfl c p X2 ?_) | fail)
        clear t1
        refine (encode_any c p _ IC.out A2.out (hk.below B2.out) (hp.below B2.out)).mono ?_
        rintro e w3 ⟨rfl, hb3⟩
        rw [h0, HT.out]
        have X3 := Lib.hid (X2.out.below hb3)
        have A3 := Lib.hid (A2.out.below hb3)
        have B3 := Lib.hid (bthen B2.out hb3)
        clear hb3 X2 A2 B2
        have htz : T.size ≤ 4096 := ID.out.2.2
        go_wp2_with fail
        refine (decode_any T _ (by omega) (hk.below B3.out) (hp.below B3.out) (hE.below B3.out)).mono ?_
        rintro e w4 ⟨⟨d, q, rfl, hd, hat, _⟩ | ⟨rfl, hno⟩, hb4⟩
        rotate_left
        · exact absurd ID.out (hno c)
        have hdc : c = d := (isDec_inj hd ID.out).symm
        subst hdc
        have Z4 : Hid (ClBox (w4.alloc (clO cl0 p30)) w4.heap.size cl0 p30) := Lib.hid (ClBox.new _ _ _)
        have B4 := Lib.hid (bthen B3.out (bthen hb4 (below_cl w4 c q)))
        have A4 := Lib.hid ((A3.out.below hb4).below (below_cl w4 c q))
        have D4 := Lib.hid (hat.below (below_cl w4 c q))
        have H4 := Lib.hid (((Has.add (l := []) (fun x hx => by simp at hx) X3.out).below hb4).cl c q)
        clear hb4 hat hd B3 A3 X3
        obtain ⟨g4, HG4⟩ : ∃ g, Hid (w4.heap.size = g) := ⟨_, Lib.hid rfl⟩
        obtain ⟨W4, HW4⟩ : ∃ W, Hid (((w4.alloc (clO cl0 p30)).setRow w4.heap.size (clA c q)) = W) := ⟨_, Lib.hid rfl⟩
        rw [HW4.out] at B4 A4 D4 H4
        rw [HG4.out] at H4
        have XA : Hid (ClBox W4 w.heap.size c p) := Lib.hid (H4.out.get _ _ (by simp))
        have XB : Hid (ClBox W4 g4 c q) := Lib.hid (H4.out.get _ _ (by simp))
        go_wp2_with (first
          | (refine alloc_cl rfl _ rfl rfl ?_)
          | (refine store_cl rfl _ rfl _ _ rfl w4.heap.size rfl c q rfl cl0 p30 Z4 ?_; rw [HW4.out, HG4.out])
          | (refine load_cl_g rfl _ rfl _ rfl w.heap.size rfl c p XA ?_)
          | (refine load_cl_g rfl _ rfl _ rfl g4 rfl c q XB ?_)
          | fail)
        clear XA XB Z4 HW4 H4
        refine (requal_any c c p q _ A4.out D4.out ⟨by have := LF.out.l1; omega, by have := LF.out.l2; omega, by have := LF.out.l3; omega⟩ ⟨by have := LF.out.l1; omega, by have := LF.out.l2; omega, by have := LF.out.l3; omega⟩).mono ?_
        rintro e w5 ⟨rfl, hb5⟩
        rw [(eqB_iff c c).2 rfl]
        have B5 := Lib.hid (bthen B4.out hb5)
        clear hb5 A4 D4 B4
        have t2 : decide ((4096 : Int) < (T.size : Int)) = false := decide_eq_false (by omega)
        go_wp2_with fail
        refine (decode_any s _ (by omega) (hk.below B5.out) (hp.below B5.out) (hE.below B5.out)).mono ?_
        rintro e w6 ⟨⟨d, q, rfl, hd, hat, hin⟩ | ⟨rfl, _⟩, hb6⟩
        · have B6 := Lib.hid (bthen B5.out (bthen hb6 (below_cl w6 d q)))
          have D6 := Lib.hid (hat.below (below_cl w6 d q))
          have H6 : Hid (ClBox ((w6.alloc (clO cl0 p30)).setRow w6.heap.size (clA d q)) w6.heap.size d q) := Lib.hid ((ClBox.new w6 cl0 p30).set)
          have ID := Lib.hid hd
          have IN := Lib.hid hin
          clear hb6 hat hin hd
          have Z : Hid (ClBox (w6.alloc (clO cl0 p30)) w6.heap.size cl0 p30) := Lib.hid (ClBox.new _ _ _)
          obtain ⟨g, HG⟩ : ∃ g, Hid (w6.heap.size = g) := ⟨_, Lib.hid rfl⟩
          obtain ⟨W6, HW⟩ : ∃ W, Hid (((w6.alloc (clO cl0 p30)).setRow w6.heap.size (clA d q)) = W) := ⟨_, Lib.hid rfl⟩
          rw [HW.out] at B6 D6 H6
          rw [HG.out] at H6
          go_wp2_with (first
            | (refine alloc_cl rfl _ rfl rfl ?_)
            | (refine store_cl rfl _ rfl _ _ rfl w6.heap.size rfl d q rfl cl0 p30 Z ?_; rw [HW.out, HG.out])
            | (refine load_cl rfl _ rfl _ rfl g rfl d q H6 ?_)
            | fail)
          clear Z HW
          refine (encode_any d q _ IN.out D6.out (hk.below B6.out) (hp.below B6.out)).mono ?_
          rintro e wv ⟨rfl, hbv⟩
          rw [(isDec_enc ID.out).1, (isDec_enc ID.out).2]
          have HV := Lib.hid (H6.out.below hbv)
          have DV := Lib.hid (D6.out.below hbv)
          have BV := Lib.hid (bthen B6.out hbv)
          have ssn : (s.toList != s.toList) = false := by simp
          clear hbv B6 D6 H6
          go_wp2_with (first
            | (refine load_cl_g rfl _ rfl _ rfl g rfl d q HV ?_)
            | fail)
          clear ssn
          refine (check_any d q _ IN.out DV.out).mono ?_
          rintro e wu ⟨rfl, hbu⟩
          rw [ID.out.1]
          have BL := Lib.hid (bthen BV.out hbu)
          clear hbu
          go_wp2_with fail
          refine (awake25_any _ (hk.below BL.out) (hp.below BL.out) (hE.below BL.out)).mono ?_
          rintro e wz ⟨rfl, hbz⟩
          have BZ := Lib.hid (bthen BL.out hbz)
          clear hbz
          go_wp2_with fail
          go_ret
          exact ⟨rfl, BZ.out⟩
        · have een : (decE s == 0) = false := by unfold decE; split <;> rfl
          obtain ⟨E, HE⟩ : ∃ E, Hid (decE s = E) := ⟨_, Lib.hid rfl⟩
          rw [HE.out] at een
          rw [HE.out]
          have Z : Hid (ClBox (w6.alloc (clO cl0 p30)) w6.heap.size cl0 p30) := Lib.hid (ClBox.new _ _ _)
          have BL := Lib.hid (bthen B5.out (bthen hb6 (below_cl w6 cl0 p30)))
          clear hb6
          go_wp2_with (first
            | (refine alloc_cl rfl _ rfl rfl ?_)
            | (refine store_cl rfl _ rfl _ _ rfl w6.heap.size rfl cl0 p30 rfl cl0 p30 Z ?_)
            | fail)
          refine (awake25_any _ (hk.below BL.out) (hp.below BL.out) (hE.below BL.out)).mono ?_
          rintro e wz ⟨rfl, hbz⟩
          have BZ := Lib.hid (bthen BL.out hbz)
          clear hbz
          go_wp2_with fail
          go_ret
          exact ⟨rfl, BZ.out⟩
      · obtain ⟨E, HE⟩ : ∃ E, Hid (encE c = E) := ⟨_, Lib.hid rfl⟩
        obtain ⟨T, HT⟩ : ∃ T, Hid (encV c = T) := ⟨_, Lib.hid rfl⟩
        have een0 : (E == 0) = false := by rw [← HE.out]; simpa using h0
        clear h0
        go_enter Tryz.func7, Tryz.ntmps7
        go_wp2_with (first | (refine box_cl rfl _ rfl _ rfl c p rfl ?_) | (refine load_cl rfl _ rfl _ rfl w.heap.size rfl c p X1 ?_) | fail)
        refine (light25_any c p _ A1.out IC.out.m1 IC.out.m2 IC.out.m3).mono ?_
        rintro e w2 ⟨rfl, hb2⟩
        rw [HL.out]
        have X2 := Lib.hid (X1.out.below hb2)
        have A2 := Lib.hid (A1.out.below hb2)
        have B2 := Lib.hid (bthen B1.out hb2)
        clear hb2
        go_wp2_with (first | (refine load_cl rfl _ rfl _ rfl w.heap.size rfl c p X2 ?_) | fail)
        clear t1
        refine (encode_any c p _ IC.out A2.out (hk.below B2.out) (hp.below B2.out)).mono ?_
        rintro e w3 ⟨rfl, hb3⟩
        rw [HE.out, HT.out]
        have B3 := Lib.hid (bthen B2.out hb3)
        clear hb3 X2 A2 B2
        go_wp2_with fail
        refine (decode_any s _ (by omega) (hk.below B3.out) (hp.below B3.out) (hE.below B3.out)).mono ?_
        rintro e w4 ⟨⟨d, q, rfl, hd, hat, hin⟩ | ⟨rfl, _⟩, hb4⟩
        · have B4 := Lib.hid (bthen B3.out (bthen hb4 (below_cl w4 d q)))
          have D4 := Lib.hid (hat.below (below_cl w4 d q))
          have H4 : Hid (ClBox ((w4.alloc (clO cl0 p30)).setRow w4.heap.size (clA d q)) w4.heap.size d q) := Lib.hid ((ClBox.new w4 cl0 p30).set)
          have ID := Lib.hid hd
          have IN := Lib.hid hin
          clear hb4 hat hin hd
          have Z : Hid (ClBox (w4.alloc (clO cl0 p30)) w4.heap.size cl0 p30) := Lib.hid (ClBox.new _ _ _)
          obtain ⟨g, HG⟩ : ∃ g, Hid (w4.heap.size = g) := ⟨_, Lib.hid rfl⟩
          obtain ⟨W4, HW⟩ : ∃ W, Hid (((w4.alloc (clO cl0 p30)).setRow w4.heap.size (clA d q)) = W) := ⟨_, Lib.hid rfl⟩
          rw [HW.out] at B4 D4 H4
          rw [HG.out] at H4
          go_wp2_with (first
            | (refine alloc_cl rfl _ rfl rfl ?_)
            | (refine store_cl rfl _ rfl _ _ rfl w4.heap.size rfl d q rfl cl0 p30 Z ?_; rw [HW.out, HG.out])
            | (refine load_cl rfl _ rfl _ rfl g rfl d q H4 ?_)
            | fail)
          clear Z HW
          refine (encode_any d q _ IN.out D4.out (hk.below B4.out) (hp.below B4.out)).mono ?_
          rintro e wv ⟨rfl, hbv⟩
          rw [(isDec_enc ID.out).1, (isDec_enc ID.out).2]
          have HV := Lib.hid (H4.out.below hbv)
          have DV := Lib.hid (D4.out.below hbv)
          have BV := Lib.hid (bthen B4.out hbv)
          have ssn : (s.toList != s.toList) = false := by simp
          clear hbv B4 D4 H4
          go_wp2_with (first
            | (refine load_cl_g rfl _ rfl _ rfl g rfl d q HV ?_)
            | fail)
          clear ssn
          refine (check_any d q _ IN.out DV.out).mono ?_
          rintro e wu ⟨rfl, hbu⟩
          rw [ID.out.1]
          have BL := Lib.hid (bthen BV.out hbu)
          clear hbu
          go_wp2_with fail
          refine (awake25_any _ (hk.below BL.out) (hp.below BL.out) (hE.below BL.out)).mono ?_
          rintro e wz ⟨rfl, hbz⟩
          have BZ := Lib.hid (bthen BL.out hbz)
          clear hbz
          go_wp2_with fail
          go_ret
          exact ⟨rfl, BZ.out⟩
        · have een : (decE s == 0) = false := by unfold decE; split <;> rfl
          obtain ⟨E, HE⟩ : ∃ E, Hid (decE s = E) := ⟨_, Lib.hid rfl⟩
          rw [HE.out] at een
          rw [HE.out]
          have Z : Hid (ClBox (w4.alloc (clO cl0 p30)) w4.heap.size cl0 p30) := Lib.hid (ClBox.new _ _ _)
          have BL := Lib.hid (bthen B3.out (bthen hb4 (below_cl w4 cl0 p30)))
          clear hb4
          go_wp2_with (first
            | (refine alloc_cl rfl _ rfl rfl ?_)
            | (refine store_cl rfl _ rfl _ _ rfl w4.heap.size rfl cl0 p30 rfl cl0 p30 Z ?_)
            | fail)
          refine (awake25_any _ (hk.below BL.out) (hp.below BL.out) (hE.below BL.out)).mono ?_
          rintro e wz ⟨rfl, hbz⟩
          have BZ := Lib.hid (bthen BL.out hbz)
          clear hbz
          go_wp2_with fail
          go_ret
          exact ⟨rfl, BZ.out⟩
    · have t1 : decide ((5000 : Int) < (s.size : Int)) = true := decide_eq_true (by omega)
      clear hs
      go_enter Tryz.func7, Tryz.ntmps7
      go_wp2_with (first | (refine box_cl rfl _ rfl _ rfl c p rfl ?_) | (refine load_cl rfl _ rfl _ rfl w.heap.size rfl c p X1 ?_) | fail)
      refine (light25_any c p _ A1.out IC.out.m1 IC.out.m2 IC.out.m3).mono ?_
      rintro e w2 ⟨rfl, hb2⟩
      rw [HL.out]
      have X2 := Lib.hid (X1.out.below hb2)
      have A2 := Lib.hid (A1.out.below hb2)
      have B2 := Lib.hid (bthen B1.out hb2)
      clear hb2
      have BL := B2
      go_wp2_with fail
      refine (awake25_any _ (hk.below BL.out) (hp.below BL.out) (hE.below BL.out)).mono ?_
      rintro e wz ⟨rfl, hbz⟩
      have BZ := Lib.hid (bthen BL.out hbz)
      clear hbz
      go_wp2_with fail
      go_ret
      exact ⟨rfl, BZ.out⟩
  · have HL : Hid (lightC c = false) := Lib.hid (by simpa using hl)
    clear hl
    go_enter Tryz.func7, Tryz.ntmps7
    go_wp2_with (first | (refine box_cl rfl _ rfl _ rfl c p rfl ?_) | (refine load_cl rfl _ rfl _ rfl w.heap.size rfl c p X1 ?_) | fail)
    refine (light25_any c p _ A1.out IC.out.m1 IC.out.m2 IC.out.m3).mono ?_
    rintro e w2 ⟨rfl, hb2⟩
    rw [HL.out]
    have BL := Lib.hid (bthen B1.out hb2)
    clear hb2
    go_wp2_with fail
    refine (awake25_any _ (hk.below BL.out) (hp.below BL.out) (hE.below BL.out)).mono ?_
    rintro e wz ⟨rfl, hbz⟩
    have BZ := Lib.hid (bthen BL.out hbz)
    clear hbz
    go_wp2_with fail
    go_ret
    exact ⟨rfl, BZ.out⟩

set_option maxRecDepth 100000 in
/-- What the walk gives, for every argument and every world that holds the listed variables. -/
theorem contract (H : Type) (enc : TypeId × Value → H) (W : World) (base : Nat) (args : Array Value) (ds gs : List (DataW H)) (before : List MemPlace)
    (hval : ∀ (j : Nat) t v, Tryz.f7.params[j]? = some t → args[j]? = some v → Value.okWide Tryz.prog W .any base t v)
    (hW : DataW.Whole enc Tryz.prog Tryz.f7.params.toList Rows.claimsBackSpec.vars false W args.toList ds gs before) (hL : laidMetH Tryz.prog Rows.claimsBackRow.laid W) :
    Calls Tryz.prog 7 args W fun e W' => ∃ v, e = .returned v ∧ Rows.claimsBackSpec.post enc Tryz.prog Tryz.f7 false true false false W args v W' := by
  have hW' := hW
  obtain ⟨p, q, hA0, hV, rfl, hfz, hnd⟩ := hW
  obtain ⟨rfl, rfl⟩ := trodVars_none hV
  have hA1 : DataW.TrodAll enc Tryz.prog W 0 (fun _ => true) true Tryz.f7.params.toList args.toList ds (p ++ []) := by rw [List.append_nil]; exact hA0
  have hA : DataW.TrodAll enc Tryz.prog W 0 (fun _ => true) true Tryz.f7.params.toList args.toList ds p := hA0
  rw [Tryz.params7] at hA hval
  obtain ⟨v0, vs0, d0, ds0, p0, q0, hargs, rfl, rfl, h0, r0⟩ := trodAll_cons hA
  obtain ⟨v1, vs1, d1, ds1, p1, q1, rfl, rfl, rfl, h1, r1⟩ := trodAll_cons r0
  obtain ⟨rfl, rfl, rfl⟩ := trodAll_nil r1
  obtain rfl : args = #[v0, v1] := by cases args; simp_all
  obtain ⟨x0, q0, rfl, at0, in0⟩ := open_cl (hval 0 24 v0 rfl rfl) h0
  obtain ⟨s1, rfl, rfl, rfl, hs1⟩ := open_string Tryz.underlying9 (hval 1 9 v1 rfl rfl) h1
  have hs1 : s1.size ≤ 9223372036854775807 := by unfold maxLen at hs1; exact hs1
  obtain ⟨hk, hp, hE⟩ := laid_tabs hL
  refine (walk x0 s1 q0 W hk hp hE at0 in0).mono fun e W' ⟨he, hb⟩ => ?_
  subst he
  exact ⟨_, rfl, law_post laidOut (by kernel_rfl) (by kernel_rfl) Tryz.underlying4 hW' rfl rfl hA1 hb⟩

set_option maxRecDepth 100000 in
theorem reads (w : World) {H : Type} (enc : TypeId × Value → H) : ∃ places, DataW.whole enc Tryz.prog w Tryz.f7.params.toList Rows.claimsBackSpec.vars false #[Value.agg #[.string ByteArray.empty, .string ByteArray.empty, .string ByteArray.empty, .string ByteArray.empty, .string ByteArray.empty, .string ByteArray.empty, .string ByteArray.empty, .string ByteArray.empty, .slice none 0 0, .slice none 0 0, .slice none 0 0, .int .i64 0, .int .i64 0, .int .i64 0, .int .i64 0, .int .i64 0], .string ByteArray.empty].toList 8 = some ([.agg [.lit (.string []), .lit (.string []), .lit (.string []), .lit (.string []), .lit (.string []), .lit (.string []), .lit (.string []), .lit (.string []), .nil, .nil, .nil, .lit (.int .i64 0), .lit (.int .i64 0), .lit (.int .i64 0), .lit (.int .i64 0), .lit (.int .i64 0)], .lit (.string [])], [], places) :=
  ⟨[], by kernel_rfl⟩
theorem args_ok (w : World) : Input.okWideB Tryz.prog w 7 ⟨#[], #[.agg #[.string ByteArray.empty, .string ByteArray.empty, .string ByteArray.empty, .string ByteArray.empty, .string ByteArray.empty, .string ByteArray.empty, .string ByteArray.empty, .string ByteArray.empty, .slice none 0 0, .slice none 0 0, .slice none 0 0, .int .i64 0, .int .i64 0, .int .i64 0, .int .i64 0, .int .i64 0], .string ByteArray.empty], []⟩ = true := by kernel_rfl
set_option maxRecDepth 100000 in
theorem lifted (os : Os) (started : os.Started) (H : Type) (enc : TypeId × Value → H) (F : Stop.Interp) :
    ReturnsInHanded {} Tryz.checked os 7 .any ((OpenSpec.ofChange Rows.claimsBackSpec).preRow enc Tryz.prog Tryz.f7 Rows.claimsBackRow.domain false Rows.claimsBackRow.laid) (((OpenSpec.ofChange Rows.claimsBackSpec).at F).post enc Tryz.prog Tryz.f7 false true false false) := by
  obtain ⟨places, hx⟩ := reads _ enc
  refine returnsInHanded_of_row (C := Tryz.checked) (s := OpenSpec.ofChange Rows.claimsBackSpec) own started (by kernel_rfl) Tryz.func7
    (witness_row_at (enc := enc) (C := Tryz.checked) false (World.laidAll Tryz.prog os laidList) #[.agg #[.string ByteArray.empty, .string ByteArray.empty, .string ByteArray.empty, .string ByteArray.empty, .string ByteArray.empty, .string ByteArray.empty, .string ByteArray.empty, .string ByteArray.empty, .slice none 0 0, .slice none 0 0, .slice none 0 0, .int .i64 0, .int .i64 0, .int .i64 0, .int .i64 0, .int .i64 0], .string ByteArray.empty] (World.laidAll_os _ _ _) (w_hv os _) (w_hr os _) (args_ok _)
      (OpenSpec.preRow_of_cond 8 hx (by kernel_rfl) (fun k hk => by cases hk) (by kernel_rfl) (w_laid os _))) ?_
  intro W base args ds gs before hval hW _ _ _ hL _ _
  exact contract H enc W base args ds gs before hval hW hL

theorem said : Rows.ClaimsBackSaid :=
  OpenClaim.holds_of_cond 7 Tryz.f7 rfl rfl rfl rfl rfl rfl rfl ⟨rfl, rfl, rfl, rfl, rfl⟩ rfl rfl rfl rfl rfl (by kernel_rfl) Tryz.func7 (by kernel_rfl)
    (of_decide_eq_true (by kernel_rfl)) (by unfold Func.isWrapper; first | (rw [if_pos (by decide +kernel)]; kernel_rfl) | (rw [if_neg (by decide +kernel)]; exact ⟨rfl, rfl⟩))
    (fun os started H enc _ F => by rw [OpenClaim.pre_eq_preRow]; exact lifted os started H enc F)

theorem plain (f : FuncId) (fn : Func) (hf : Tryz.pinned.checked.prog.funcNamed Rows.claimsBackRow.func = some f) (hfn : Tryz.pinned.checked.prog.funcs[f]? = some fn) :
    true = Tryz.pinned.checked.prog.looks [] ∧ ∀ (j : Nat) t, fn.params[j]? = some t → Tryz.pinned.checked.prog.wantsStandIn t = false := by
  obtain rfl : f = 7 := Option.some.inj ((show Tryz.prog.funcNamed Rows.claimsBackRow.func = some 7 by kernel_rfl).symm.trans hf) |>.symm
  obtain rfl : fn = Tryz.f7 := (Option.some.inj (Tryz.func7.symm.trans hfn)).symm
  refine ⟨by kernel_rfl, fun j t ht => ?_⟩
  rw [Tryz.params7] at ht
  have hm : t ∈ [24, 9] := by simpa using Array.mem_of_getElem? ht
  have hall : ([24, 9].all fun u => !Tryz.prog.wantsStandIn u) = true := by kernel_rfl
  exact (show Tryz.prog.wantsStandIn t = false by simpa using List.all_eq_true.1 hall t hm)

theorem card : Rows.ClaimsBackCardSaid :=
  Claim7.holds_tied_plain_at .later [] _ _ _ _ said (fun _ h => by cases h) (by kernel_rfl) (fun _ h => by cases h) claimsBack_row_tie rfl ⟨rfl, rfl⟩ (by kernel_rfl) rfl plain (by kernel_rfl)
end Go.Proofs.YtpmikpijonccjaaGreatDoor.claimsBack
