/- TokenReturns: for every ring of keys, all claims and every receiver the law answers true and leaves its arguments alone; no condition. -/
import Derived.Lay
import Derived.Test.YtiiioefjdebggaaGreatDoorCards
import Derived.Test.YtiiioefjdebggaaGreatDoorTie
import Derived.Test.YtiiioefjdebggaaGreatDoorSeg5
import Derived.Test.YtiiioefjdebggaaGreatDoorSeg16
import Derived.Test.YtiiioefjdebggaaGreatDoorSeg13
import Derived.Test.YtiiioefjdebggaaGreatDoorSeg18
import Derived.Test.YtiiioefjdebggaaGreatDoorSeg14
import Derived.Test.YtiiioefjdebggaaGreatDoorSeg17
namespace Go.Proofs.YtiiioefjdebggaaGreatDoor.tokenReturns
open Go.ChangeShapes Go.WideShapes Go.ChangeAt Go.RowKit
open Go.ChangeMaps (open_string)


set_option linter.unusedSimpArgs false in
set_option maxHeartbeats 8000000 in
set_option maxRecDepth 100000 in
theorem walk (l : List Ky) (A : Option Addr) (cc : Nat) (c : Cl) (p : P3) (x : Ex) (w : World) (hd : DigOk w) (hp : PowOk w) (hk : KeysOk w) (hE : ErrsOk w) (hS : KysAt w A l) (hlc : l.length ≤ cc) (hl : l.length ≤ 9223372036854775807) (hin : ∀ x ∈ l, KyIn x) (hc : ClAt w c p) (ic : ClIn c p) :
    Calls Tryz.prog 9 #[.slice A l.length cc, clV c p, exV x] w fun e w' => e = .returned (.bool true) ∧ Below w.heap.size w w' := by
  have B1 : Hid (Below w.heap.size w ((w.alloc (clO c p)).alloc (exO0 x))) := Lib.hid (((Below.refl _ _).alloc (Nat.le_refl _) _).alloc (by simp) _)
  have X1 : Hid (ClBox ((w.alloc (clO c p)).alloc (exO0 x)) w.heap.size c p) := Lib.hid ((ClBox.new w c p).below ((Below.refl _ _).alloc (Nat.le_refl _) _))
  have Y1 : Hid (ExBox ((w.alloc (clO c p)).alloc (exO0 x)) (w.heap.size + 1) x) := Lib.hid (by have h := ExBox.new (w.alloc (clO c p)) x; simpa using h)
  have hsz : (w.alloc (clO c p)).heap.size = w.heap.size + 1 := by simp
  have HS := Lib.hid hS
  have HC := Lib.hid hc
  have IC := Lib.hid ic
  have HI := Lib.hid hin
  have HRE := Lib.hid (@sign_returns l c x)
  have HEM := Lib.hid (@sign_empty l c x.now)
  have HSZ := Lib.hid (@sign_size l c x.now)
  have HSZE := Lib.hid (@sign_zero l c x.now)
  obtain ⟨E, HE⟩ : ∃ E, Hid (signE l c x.now = E) := ⟨_, Lib.hid rfl⟩
  obtain ⟨V, HV⟩ : ∃ E, Hid (signV l c x.now = E) := ⟨_, Lib.hid rfl⟩
  rw [HE.out] at HRE HEM HSZE
  rw [HV.out] at HRE HEM HSZ HSZE
  clear hS hc ic hin
  go_enter Tryz.func9, Tryz.ntmps9
  go_upto_region 1 with (first | (refine box_cl rfl _ rfl _ rfl c p rfl ?_) | (refine box_ex rfl _ rfl _ rfl x rfl ?_) | fail)
  (try rw [hsz])
  clear hsz
  obtain ⟨x4, x5⟩ := Y1.out.cells
  go_wp2_with (first | (refine load_cl_g rfl _ rfl _ rfl w.heap.size rfl c p X1 ?_) | (refine load_ex_g rfl _ rfl _ rfl (w.heap.size + 1) rfl x Y1 ?_) | fail)
  refine (sign26_any l A cc c p x.now _ (hd.below B1.out) (hp.below B1.out) (hk.below B1.out) (HS.out.below B1.out) hlc hl HI.out (HC.out.below B1.out) IC.out).mono ?_
  rintro e w2 ⟨rfl, hb2⟩
  rw [HE.out, HV.out]
  have B2 := Lib.hid (bthen B1.out hb2)
  have X2 := Lib.hid (X1.out.below hb2)
  have Y2 := Lib.hid (Y1.out.below hb2)
  clear hb2
  clear x4 x5
  by_cases h1 : E = 0
  · have hEb : (E != 0) = false := by rw [h1]; rfl
    obtain ⟨k, ht, hm, hcq⟩ := HRE.out h1
    have hkc : keysE l = 0 ∧ checkE c = 0 := by obtain ⟨_, a1, a2, _⟩ := HSZE.out h1; exact ⟨a1, a2⟩
    obtain ⟨hke, hck⟩ := hkc
    have HSM : Hid (SmallL c) := Lib.hid (SmallL.of (check_small hck))
    have HZ : Hid (∀ k ∈ l, wordS k.id = true → k.sec.size ≤ 140737488351232) := Lib.hid (fun k hk _ => by have := keys_small hke hk; omega)
    have HT := Lib.hid ht
    have HCQ := Lib.hid hcq
    have HM0 := Lib.hid hm
    clear ht hcq hm h1 hke hck HSZE HRE HEM
    obtain ⟨DD, HD⟩ : ∃ E, Hid (verC l V x = E) := ⟨_, Lib.hid rfl⟩
    obtain ⟨M, HM⟩ : ∃ E, Hid (verE l V x = E) := ⟨_, Lib.hid rfl⟩
    have HSD : Hid (SmallL DD) := Lib.hid (by rw [← HD.out]; exact verC_small _ _ _)
    rw [HM.out, HD.out] at HCQ
    rw [HM.out] at HM0
    go_wp2_with fail
    refine (split26_any V _ (hd.below B2.out) (by have := HSZ.out; omega)).mono ?_
    rintro e w3 ⟨(⟨i1, i2, i3, rfl, hti, _, _, _⟩ | ⟨rfl, hno⟩), hb3⟩
    rotate_left
    · exact absurd HT.out (hno _ _ _)
    have B3 := Lib.hid (bthen B2.out hb3)
    have X3 := Lib.hid (X2.out.below hb3)
    have Y3 := Lib.hid (Y2.out.below hb3)
    clear hb3
    obtain ⟨he1, _, _⟩ := HT.out.inj hti
    rw [he1] at HM0
    clear hti he1 HT
    obtain ⟨x4, x5⟩ := Y3.out.cells
    obtain ⟨K, HK⟩ : ∃ E, Hid (accV l i1 x.now x.skew = E) := ⟨_, Lib.hid rfl⟩
    obtain ⟨G, HG⟩ : ∃ E, Hid (accE l i1 x.now x.skew = E) := ⟨_, Lib.hid rfl⟩
    obtain ⟨J, HJ⟩ : ∃ E, Hid (allowE c x = E) := ⟨_, Lib.hid rfl⟩
    rw [HG.out, HJ.out] at HM0
    go_wp2_with fail
    refine (accepting_any l A cc i1 x.now x.skew _ (HS.out.below B3.out) hl).mono ?_
    rintro e w4 ⟨rfl, hb4⟩
    rw [HK.out, HG.out]
    have Z4 : Hid (KyBox (w4.alloc (kyO ky0)) w4.heap.size ky0) := Lib.hid (KyBox.new _ _)
    have bb := below_ky w4 ky0 K
    obtain ⟨W4, HW4⟩ : ∃ W, Hid (((w4.alloc (kyO ky0)).setRow w4.heap.size (kyA K)) = W) := ⟨_, Lib.hid rfl⟩
    rw [HW4.out] at bb
    have X4 := Lib.hid ((X3.out.below hb4).below bb)
    have Y4 := Lib.hid ((Y3.out.below hb4).below bb)
    have B4 := Lib.hid (bthen B3.out (bthen hb4 bb))
    clear bb hb4 x4 x5
    go_upto_region 8 with (first
      | (refine alloc_ky rfl _ rfl rfl ?_)
      | (refine store_ky rfl _ rfl _ _ rfl w4.heap.size rfl K rfl ky0 Z4 ?_; rw [HW4.out])
      | fail)
    by_cases h2 : G = 0
    · have hGb : (G == 0) = true := by rw [h2]; rfl
      rw [if_pos h2] at HM0
      obtain rfl : M = J := HM0.out
      clear HM0 h2
      go_wp2_with (first | (refine load_cl_g rfl _ rfl _ rfl w.heap.size rfl c p X4 ?_) | (refine load_ex_g rfl _ rfl _ rfl (w.heap.size + 1) rfl x Y4 ?_) | fail)
      refine (allow_any c p x _ (Nat.le_trans HSM.out.1 (by decide)) (HC.out.below B4.out)).mono ?_
      rintro e w5 ⟨rfl, hb5⟩
      rw [HJ.out]
      have B5 := Lib.hid (bthen B4.out hb5)
      have X5 := Lib.hid (X4.out.below hb5)
      have Y5 := Lib.hid (Y4.out.below hb5)
      clear hb5
      by_cases h3 : M = 0
      · have hMb : (M != 0) = false := by rw [h3]; rfl
        have hMc : (M == 0) = true := by rw [h3]; rfl
        have HQ : Hid (eqB c DD = true) := Lib.hid ((eqB_iff _ _).2 (HCQ.out h3).symm)
        clear h3
        go_wp2_with (first | (refine load_cl_g rfl _ rfl _ rfl w.heap.size rfl c p X5 ?_) | (refine load_ex_g rfl _ rfl _ rfl (w.heap.size + 1) rfl x Y5 ?_) | fail)
        refine (verify26_any l A cc V x _ (hd.below B5.out) (hp.below B5.out) (hk.below B5.out) (hE.below B5.out) (HS.out.below B5.out) hl (by have := HSZ.out; omega) HZ.out).mono ?_
        rintro e w6 ⟨⟨q, rfl, hda, hdi⟩, hb6⟩
        rw [HM.out]
        rw [HD.out] at hda hdi
        rw [HD.out]
        have Z6 : Hid (ClBox (w6.alloc (clO cl0 p30)) w6.heap.size cl0 p30) := Lib.hid (ClBox.new _ _ _)
        obtain ⟨W6, HW6⟩ : ∃ W, Hid (((w6.alloc (clO cl0 p30)).setRow w6.heap.size (clA DD q)) = W) := ⟨_, Lib.hid rfl⟩
        have bb := below_cl w6 DD q
        have V6 : Hid (ClBox W6 w6.heap.size DD q) := Lib.hid (by rw [← HW6.out]; exact ClBox.set Z6.out)
        rw [HW6.out] at bb
        have X6 := Lib.hid ((X5.out.below hb6).below bb)
        have DA := Lib.hid (hda.below bb)
        have DI := Lib.hid hdi
        have B6 := Lib.hid (bthen B5.out (bthen hb6 bb))
        clear hda hdi bb hb6
        go_wp2_with (first
          | (refine alloc_cl rfl _ rfl rfl ?_)
          | (refine store_cl rfl _ rfl _ _ rfl w6.heap.size rfl DD q rfl cl0 p30 Z6 ?_; rw [HW6.out])
          | (refine load_cl_g rfl _ rfl _ rfl w.heap.size rfl c p X6 ?_) | (refine load_cl_g rfl _ rfl _ rfl w6.heap.size rfl DD q V6 ?_)
          | fail)
        refine (equal_any c DD p q _ IC.out DI.out (HC.out.below B6.out) DA.out).mono ?_
        rintro e w7 ⟨rfl, hb7⟩
        rw [HQ.out]
        have B7 := Lib.hid (bthen B6.out hb7)
        have X7 := Lib.hid (X6.out.below hb7)
        have V7 := Lib.hid (V6.out.below hb7)
        have DA7 := Lib.hid (DA.out.below hb7)
        clear hb7
        go_wp2_with (first | (refine load_cl_g rfl _ rfl _ rfl w.heap.size rfl c p X7 ?_) | (refine load_cl_g rfl _ rfl _ rfl w6.heap.size rfl DD q V7 ?_) | fail)
        refine (requal_any c DD p q _ (HC.out.below B7.out) DA7.out HSM.out HSD.out).mono ?_
        rintro e w8 ⟨rfl, hb8⟩
        rw [HQ.out]
        have BL := Lib.hid (bthen B7.out hb8)
        clear hb8
        go_wp2_with fail
        refine (example26_any _ (hd.below BL.out) (hp.below BL.out) (hk.below BL.out) (hE.below BL.out)).mono ?_
        rintro e wz ⟨rfl, hbz⟩
        have BZ := Lib.hid (bthen BL.out hbz)
        clear hbz
        go_wp2_with fail
        go_ret
        exact ⟨rfl, BZ.out⟩
      · have hMb : (M != 0) = true := by simpa using h3
        have mmn : (M == M) = true := by simp
        clear h3
        go_wp2_with (first | (refine load_cl_g rfl _ rfl _ rfl w.heap.size rfl c p X5 ?_) | (refine load_ex_g rfl _ rfl _ rfl (w.heap.size + 1) rfl x Y5 ?_) | fail)
        refine (verify26_any l A cc V x _ (hd.below B5.out) (hp.below B5.out) (hk.below B5.out) (hE.below B5.out) (HS.out.below B5.out) hl (by have := HSZ.out; omega) HZ.out).mono ?_
        rintro e w6 ⟨⟨q, rfl, hda, hdi⟩, hb6⟩
        rw [HM.out]
        rw [HD.out] at hda hdi
        rw [HD.out]
        have Z6 : Hid (ClBox (w6.alloc (clO cl0 p30)) w6.heap.size cl0 p30) := Lib.hid (ClBox.new _ _ _)
        obtain ⟨W6, HW6⟩ : ∃ W, Hid (((w6.alloc (clO cl0 p30)).setRow w6.heap.size (clA DD q)) = W) := ⟨_, Lib.hid rfl⟩
        have bb := below_cl w6 DD q
        have V6 : Hid (ClBox W6 w6.heap.size DD q) := Lib.hid (by rw [← HW6.out]; exact ClBox.set Z6.out)
        rw [HW6.out] at bb
        have X6 := Lib.hid ((X5.out.below hb6).below bb)
        have DA := Lib.hid (hda.below bb)
        have DI := Lib.hid hdi
        have B6 := Lib.hid (bthen B5.out (bthen hb6 bb))
        clear hda hdi bb hb6
        go_wp2_with (first
          | (refine alloc_cl rfl _ rfl rfl ?_)
          | (refine store_cl rfl _ rfl _ _ rfl w6.heap.size rfl DD q rfl cl0 p30 Z6 ?_; rw [HW6.out])
          | (refine load_cl_g rfl _ rfl _ rfl w.heap.size rfl c p X6 ?_) | (refine load_cl_g rfl _ rfl _ rfl w6.heap.size rfl DD q V6 ?_)
          | fail)
        have BL := B6
        refine (example26_any _ (hd.below BL.out) (hp.below BL.out) (hk.below BL.out) (hE.below BL.out)).mono ?_
        rintro e wz ⟨rfl, hbz⟩
        have BZ := Lib.hid (bthen BL.out hbz)
        clear hbz
        go_wp2_with fail
        go_ret
        exact ⟨rfl, BZ.out⟩
    · have hGb : (G == 0) = false := by simpa using h2
      have hGc : (G != 0) = true := by simpa using h2
      rw [if_neg h2] at HM0
      obtain rfl : M = G := HM0.out
      clear HM0 h2
      have mmn : (M == M) = true := by simp
      go_wp2_with (first | (refine load_cl_g rfl _ rfl _ rfl w.heap.size rfl c p X4 ?_) | (refine load_ex_g rfl _ rfl _ rfl (w.heap.size + 1) rfl x Y4 ?_) | fail)
      refine (verify26_any l A cc V x _ (hd.below B4.out) (hp.below B4.out) (hk.below B4.out) (hE.below B4.out) (HS.out.below B4.out) hl (by have := HSZ.out; omega) HZ.out).mono ?_
      rintro e w5 ⟨⟨q, rfl, hda, hdi⟩, hb5⟩
      rw [HM.out]
      rw [HD.out] at hda hdi
      rw [HD.out]
      have Z5 : Hid (ClBox (w5.alloc (clO cl0 p30)) w5.heap.size cl0 p30) := Lib.hid (ClBox.new _ _ _)
      obtain ⟨W5, HW5⟩ : ∃ W, Hid (((w5.alloc (clO cl0 p30)).setRow w5.heap.size (clA DD q)) = W) := ⟨_, Lib.hid rfl⟩
      have bb := below_cl w5 DD q
      have V5 : Hid (ClBox W5 w5.heap.size DD q) := Lib.hid (by rw [← HW5.out]; exact ClBox.set Z5.out)
      rw [HW5.out] at bb
      have X5 := Lib.hid ((X4.out.below hb5).below bb)
      have DA := Lib.hid (hda.below bb)
      have DI := Lib.hid hdi
      have B5 := Lib.hid (bthen B4.out (bthen hb5 bb))
      clear hda hdi bb hb5
      go_wp2_with (first
        | (refine alloc_cl rfl _ rfl rfl ?_)
        | (refine store_cl rfl _ rfl _ _ rfl w5.heap.size rfl DD q rfl cl0 p30 Z5 ?_; rw [HW5.out])
        | (refine load_cl_g rfl _ rfl _ rfl w.heap.size rfl c p X5 ?_) | (refine load_cl_g rfl _ rfl _ rfl w5.heap.size rfl DD q V5 ?_)
        | fail)
      have BL := B5
      refine (example26_any _ (hd.below BL.out) (hp.below BL.out) (hk.below BL.out) (hE.below BL.out)).mono ?_
      rintro e wz ⟨rfl, hbz⟩
      have BZ := Lib.hid (bthen BL.out hbz)
      clear hbz
      go_wp2_with fail
      go_ret
      exact ⟨rfl, BZ.out⟩
  · have hEb : (E != 0) = true := by simpa using h1
    have hVb : ((V.size : Int) == 0) = true := by rw [HEM.out h1]; rfl
    clear h1
    have BL := B2
    go_wp2_with fail
    refine (example26_any _ (hd.below BL.out) (hp.below BL.out) (hk.below BL.out) (hE.below BL.out)).mono ?_
    rintro e wz ⟨rfl, hbz⟩
    have BZ := Lib.hid (bthen BL.out hbz)
    clear hbz
    go_wp2_with fail
    go_ret
    exact ⟨rfl, BZ.out⟩

set_option maxRecDepth 100000 in
/-- What the walk gives, for every argument and every world that holds the listed variables. -/
theorem contract (H : Type) (enc : TypeId × Value → H) (W : World) (base : Nat) (args : Array Value) (ds gs : List (DataW H)) (before : List MemPlace)
    (hval : ∀ (j : Nat) t v, Tryz.f9.params[j]? = some t → args[j]? = some v → Value.okWide Tryz.prog W .any base t v)
    (hW : DataW.Whole enc Tryz.prog Tryz.f9.params.toList Rows.tokenReturnsSpec.vars false W args.toList ds gs before) (hL : laidMetH Tryz.prog Rows.tokenReturnsRow.laid W) :
    Calls Tryz.prog 9 args W fun e W' => ∃ v, e = .returned v ∧ Rows.tokenReturnsSpec.post enc Tryz.prog Tryz.f9 false true false false W args v W' := by
  have hW' := hW
  obtain ⟨p, q, hA0, hV, rfl, hfz, hnd⟩ := hW
  obtain ⟨rfl, rfl⟩ := trodVars_none hV
  have hA1 : DataW.TrodAll enc Tryz.prog W 0 (fun _ => true) true Tryz.f9.params.toList args.toList ds (p ++ []) := by rw [List.append_nil]; exact hA0
  have hA : DataW.TrodAll enc Tryz.prog W 0 (fun _ => true) true Tryz.f9.params.toList args.toList ds p := hA0
  rw [Tryz.params9] at hA hval
  obtain ⟨v0, vs0, d0, ds0, p0, q0, hargs, rfl, rfl, h0, r0⟩ := trodAll_cons hA
  obtain ⟨v1, vs1, d1, ds1, p1, q1, rfl, rfl, rfl, h1, r1⟩ := trodAll_cons r0
  obtain ⟨v2, vs2, d2, ds2, p2, q2, rfl, rfl, rfl, h2, r2⟩ := trodAll_cons r1
  obtain ⟨rfl, rfl, rfl⟩ := trodAll_nil r2
  obtain rfl : args = #[v0, v1, v2] := by cases args; simp_all
  obtain ⟨A0, l0, n0, rfl, S0, u0, m0, in0⟩ := open_kys (hval 0 22 v0 rfl rfl) h0
  obtain ⟨x1, q1, rfl, at1, in1⟩ := open_cl (hval 1 25 v1 rfl rfl) h1
  obtain ⟨x2, rfl, in2⟩ := open_ex (hval 2 34 v2 rfl rfl) h2
  obtain ⟨hk, hp, hE, hd⟩ := laid_tabs hL
  refine (walk l0 A0 n0 x1 q1 x2 W hd hp hk hE S0 u0 m0 in0 at1 in1).mono fun e W' ⟨he, hb⟩ => ?_
  subst he
  exact ⟨_, rfl, law_post laidOut (by kernel_rfl) (by kernel_rfl) Tryz.underlying4 hW' rfl rfl hA1 hb⟩

set_option maxRecDepth 100000 in
theorem reads (w : World) {H : Type} (enc : TypeId × Value → H) : ∃ places, DataW.whole enc Tryz.prog w Tryz.f9.params.toList Rows.tokenReturnsSpec.vars false #[Value.slice none 0 0, .agg #[.string ByteArray.empty, .string ByteArray.empty, .string ByteArray.empty, .string ByteArray.empty, .string ByteArray.empty, .string ByteArray.empty, .string ByteArray.empty, .string ByteArray.empty, .slice none 0 0, .slice none 0 0, .slice none 0 0, .int .i64 0, .int .i64 0, .int .i64 0, .int .i64 0, .int .i64 0], .agg #[.string ByteArray.empty, .string ByteArray.empty, .string ByteArray.empty, .string ByteArray.empty, .int .i64 0, .int .i64 0]].toList 8 = some ([.nil, .agg [.lit (.string []), .lit (.string []), .lit (.string []), .lit (.string []), .lit (.string []), .lit (.string []), .lit (.string []), .lit (.string []), .nil, .nil, .nil, .lit (.int .i64 0), .lit (.int .i64 0), .lit (.int .i64 0), .lit (.int .i64 0), .lit (.int .i64 0)], .agg [.lit (.string []), .lit (.string []), .lit (.string []), .lit (.string []), .lit (.int .i64 0), .lit (.int .i64 0)]], [], places) :=
  ⟨[], by kernel_rfl⟩
theorem args_ok (w : World) : Input.okWideB Tryz.prog w 9 ⟨#[], #[.slice none 0 0, .agg #[.string ByteArray.empty, .string ByteArray.empty, .string ByteArray.empty, .string ByteArray.empty, .string ByteArray.empty, .string ByteArray.empty, .string ByteArray.empty, .string ByteArray.empty, .slice none 0 0, .slice none 0 0, .slice none 0 0, .int .i64 0, .int .i64 0, .int .i64 0, .int .i64 0, .int .i64 0], .agg #[.string ByteArray.empty, .string ByteArray.empty, .string ByteArray.empty, .string ByteArray.empty, .int .i64 0, .int .i64 0]], []⟩ = true := by kernel_rfl
set_option maxRecDepth 100000 in
theorem lifted (os : Os) (started : os.Started) (H : Type) (enc : TypeId × Value → H) (F : Stop.Interp) :
    ReturnsInHanded {} Tryz.checked os 9 .any ((OpenSpec.ofChange Rows.tokenReturnsSpec).preRow enc Tryz.prog Tryz.f9 Rows.tokenReturnsRow.domain false Rows.tokenReturnsRow.laid) (((OpenSpec.ofChange Rows.tokenReturnsSpec).at F).post enc Tryz.prog Tryz.f9 false true false false) := by
  obtain ⟨places, hx⟩ := reads _ enc
  refine returnsInHanded_of_row (C := Tryz.checked) (s := OpenSpec.ofChange Rows.tokenReturnsSpec) own started (by kernel_rfl) Tryz.func9
    (witness_row_at (enc := enc) (C := Tryz.checked) false (World.laidAll Tryz.prog os laidList) #[.slice none 0 0, .agg #[.string ByteArray.empty, .string ByteArray.empty, .string ByteArray.empty, .string ByteArray.empty, .string ByteArray.empty, .string ByteArray.empty, .string ByteArray.empty, .string ByteArray.empty, .slice none 0 0, .slice none 0 0, .slice none 0 0, .int .i64 0, .int .i64 0, .int .i64 0, .int .i64 0, .int .i64 0], .agg #[.string ByteArray.empty, .string ByteArray.empty, .string ByteArray.empty, .string ByteArray.empty, .int .i64 0, .int .i64 0]] (World.laidAll_os _ _ _) (w_hv os _) (w_hr os _) (args_ok _)
      (OpenSpec.preRow_of_cond 8 hx (by kernel_rfl) (fun k hk => by cases hk) (by kernel_rfl) (w_laid os _))) ?_
  intro W base args ds gs before hval hW _ _ _ hL _ _
  exact contract H enc W base args ds gs before hval hW hL

theorem said : Rows.TokenReturnsSaid :=
  OpenClaim.holds_of_cond 9 Tryz.f9 rfl rfl rfl rfl rfl rfl rfl ⟨rfl, rfl, rfl, rfl, rfl⟩ rfl rfl rfl rfl rfl (by kernel_rfl) Tryz.func9 (by kernel_rfl)
    (of_decide_eq_true (by kernel_rfl)) (by unfold Func.isWrapper; first | (rw [if_pos (by decide +kernel)]; kernel_rfl) | (rw [if_neg (by decide +kernel)]; exact ⟨rfl, rfl⟩))
    (fun os started H enc _ F => by rw [OpenClaim.pre_eq_preRow]; exact lifted os started H enc F)

theorem plain (f : FuncId) (fn : Func) (hf : Tryz.pinned.checked.prog.funcNamed Rows.tokenReturnsRow.func = some f) (hfn : Tryz.pinned.checked.prog.funcs[f]? = some fn) :
    true = Tryz.pinned.checked.prog.looks [] ∧ ∀ (j : Nat) t, fn.params[j]? = some t → Tryz.pinned.checked.prog.wantsStandIn t = false := by
  obtain rfl : f = 9 := Option.some.inj ((show Tryz.prog.funcNamed Rows.tokenReturnsRow.func = some 9 by kernel_rfl).symm.trans hf) |>.symm
  obtain rfl : fn = Tryz.f9 := (Option.some.inj (Tryz.func9.symm.trans hfn)).symm
  refine ⟨by kernel_rfl, fun j t ht => ?_⟩
  rw [Tryz.params9] at ht
  have hm : t ∈ [22, 25, 34] := by simpa using Array.mem_of_getElem? ht
  have hall : ([22, 25, 34].all fun u => !Tryz.prog.wantsStandIn u) = true := by kernel_rfl
  exact (show Tryz.prog.wantsStandIn t = false by simpa using List.all_eq_true.1 hall t hm)

theorem card : Rows.TokenReturnsCardSaid :=
  Claim7.holds_tied_plain_at .later [] _ _ _ _ said (fun _ h => by cases h) (by kernel_rfl) (fun _ h => by cases h) tokenReturns_row_tie rfl ⟨rfl, rfl⟩ (by kernel_rfl) rfl plain (by kernel_rfl)
end Go.Proofs.YtiiioefjdebggaaGreatDoor.tokenReturns
