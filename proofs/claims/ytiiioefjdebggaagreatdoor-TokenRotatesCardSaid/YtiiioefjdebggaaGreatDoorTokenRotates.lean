/- TokenRotates: for every ring of keys, every string and every receiver the law answers true and leaves its arguments alone; no condition. -/
import Derived.Lay
import Derived.Test.YtiiioefjdebggaaGreatDoorCards
import Derived.Test.YtiiioefjdebggaaGreatDoorTie
import Derived.Test.YtiiioefjdebggaaGreatDoorSeg5
import Derived.Test.YtiiioefjdebggaaGreatDoorSeg16
import Derived.Test.YtiiioefjdebggaaGreatDoorSeg18
import Derived.Test.YtiiioefjdebggaaGreatDoorSeg13
import Derived.Test.YtiiioefjdebggaaGreatDoorSeg20
import Derived.Test.YtiiioefjdebggaaGreatDoorSeg14
import Derived.Test.YtiiioefjdebggaaGreatDoorSeg17
namespace Go.Proofs.YtiiioefjdebggaaGreatDoor.tokenRotates
open Go.ChangeShapes Go.WideShapes Go.ChangeAt Go.RowKit
open Go.ChangeMaps (open_string)

theorem rot_keysE {l : List Ky} {id sec : ByteArray} {t life : Int} (h : rotE l id sec t life = 0) : keysE l = 0 := by
  by_cases hk : keysE l = 0
  · exact hk
  · rw [rot_keys hk] at h; exact absurd h hk
theorem nk_list : (⟨#[110, 101, 119, 46, 107, 101, 121]⟩ : ByteArray).toList = [110, 101, 119, 46, 107, 101, 121] := by decide +kernel
theorem rot_few {l : List Ky} {id sec : ByteArray} {t life : Int} (h : rotE l id sec t life = 0) : l.length < 16 := by
  unfold rotE at h
  split at h
  · split at h
    · split at h
      · split at h
        · omega
        · split at h
          · omega
          · split at h
            · omega
            · omega
      · omega
    · omega
  · omega
theorem rot_sec {l : List Ky} {id sec : ByteArray} {t life grace : Int} (hk : keysE l = 0) (hs : sec.size ≤ 256) : ∀ k ∈ rotL l id sec t life grace, wordS k.id = true → k.sec.size ≤ 140737488351232 := by
  intro k hm _
  rw [rotL, List.mem_append] at hm
  rcases hm with hm | hm
  · obtain ⟨y, hy, rfl⟩ := List.mem_map.1 hm
    have := keys_small hk hy
    show y.sec.size ≤ _
    omega
  · rw [List.mem_singleton] at hm
    subst hm
    show sec.size ≤ _
    omega
theorem rot_len {l : List Ky} {id sec : ByteArray} {t life grace : Int} : (rotL l id sec t life grace).length = l.length + 1 := by
  rw [rotL, List.length_append, List.length_map]; rfl
set_option linter.unusedSimpArgs false in
set_option maxHeartbeats 8000000 in
set_option maxRecDepth 100000 in
theorem walk (l : List Ky) (A : Option Addr) (cc : Nat) (s : ByteArray) (x : Ex) (w : World) (hd : DigOk w) (hp : PowOk w) (hk : KeysOk w) (hE : ErrsOk w) (hS : KysAt w A l) (hlc : l.length ≤ cc) (hl : l.length ≤ 9223372036854775807) (hin : ∀ x ∈ l, KyIn x) (hs : s.size ≤ 140737488351232) :
    Calls Tryz.prog 11 #[.slice A l.length cc, .string s, exV x] w fun e w' => e = .returned (.bool true) ∧ Below w.heap.size w w' := by
  have B1 : Hid (Below w.heap.size w (w.alloc (exO0 x))) := Lib.hid ((Below.refl _ _).alloc (Nat.le_refl _) _)
  have X1 : Hid (ExBox (w.alloc (exO0 x)) w.heap.size x) := Lib.hid (ExBox.new w x)
  have HS := Lib.hid hS
  have HI := Lib.hid hin
  have HK0 := Lib.hid (@rot_keysE l ⟨#[110, 101, 119, 46, 107, 101, 121]⟩ ⟨#[97, 110, 111, 116, 104, 101, 114]⟩ x.now 1000)
  have HFW := Lib.hid (@rot_few l ⟨#[110, 101, 119, 46, 107, 101, 121]⟩ ⟨#[97, 110, 111, 116, 104, 101, 114]⟩ x.now 1000)
  have HSEC := Lib.hid (fun h => @rot_sec l ⟨#[110, 101, 119, 46, 107, 101, 121]⟩ ⟨#[97, 110, 111, 116, 104, 101, 114]⟩ x.now 1000 100 h (by decide))
  have HLEN := Lib.hid (@rot_len l ⟨#[110, 101, 119, 46, 107, 101, 121]⟩ ⟨#[97, 110, 111, 116, 104, 101, 114]⟩ x.now 1000 100)
  have HVR := Lib.hid (fun a b c h1 h2 => @ver_rot l s ⟨#[110, 101, 119, 46, 107, 101, 121]⟩ ⟨#[97, 110, 111, 116, 104, 101, 114]⟩ a b c x.now 1000 100 x h1 h2)
  have HRO := Lib.hid (fun wq a => rotate_any l A cc ⟨#[110, 101, 119, 46, 107, 101, 121]⟩ ⟨#[97, 110, 111, 116, 104, 101, 114]⟩ x.now 1000 100 wq a hlc hl HI.out (by decide) (by decide))
  obtain ⟨L2, HL2⟩ : ∃ E, Hid (rotL l ⟨#[110, 101, 119, 46, 107, 101, 121]⟩ ⟨#[97, 110, 111, 116, 104, 101, 114]⟩ x.now 1000 100 = E) := ⟨_, Lib.hid rfl⟩
  obtain ⟨RE, HRE⟩ : ∃ E, Hid (rotE l ⟨#[110, 101, 119, 46, 107, 101, 121]⟩ ⟨#[97, 110, 111, 116, 104, 101, 114]⟩ x.now 1000 = E) := ⟨_, Lib.hid rfl⟩
  obtain ⟨E, HE⟩ : ∃ E, Hid (verE l s x = E) := ⟨_, Lib.hid rfl⟩
  obtain ⟨C, HC⟩ : ∃ E, Hid (verC l s x = E) := ⟨_, Lib.hid rfl⟩
  rw [HRE.out] at HK0 HFW HRO
  rw [HL2.out] at HSEC HLEN HVR HRO
  rw [HE.out, HC.out] at HVR
  have HSM : Hid (SmallL C) := Lib.hid (by rw [← HC.out]; exact verC_small _ _ _)
  have HQ : Hid (eqB C C = true) := Lib.hid (eqB_self C)
  have een : (E == E) = true := by simp
  clear hS hin
  go_enter Tryz.func11, Tryz.ntmps11
  go_upto_region 1 with (first | (refine box_ex rfl _ rfl _ rfl x rfl ?_) | fail)
  obtain ⟨x4, x5⟩ := X1.out.cells
  go_wp2_with fail
  refine (Calls.mono (HRO.out _ (HS.out.below B1.out)) ?_)
  rintro e w2 ⟨(⟨hne, rfl⟩ | ⟨h0, RA, rc, rfl, hrs⟩), hb2⟩
  · have B2 := Lib.hid (bthen B1.out hb2)
    have t1 : (RE != 0) = true := by simpa using hne
    clear hb2 hne x4 x5
    go_wp2_with fail
    refine (split26_any s _ (hd.below B2.out) hs).mono ?_
    rintro e w3 ⟨(⟨a, b, c, rfl, ht, _, _, _⟩ | ⟨rfl, _⟩), hb3⟩
    · clear ht
      have BL := Lib.hid (bthen B2.out hb3)
      clear hb3
      go_wp2_with fail
      refine (example26_any _ (hd.below BL.out) (hp.below BL.out) (hk.below BL.out) (hE.below BL.out)).mono ?_
      rintro e wz ⟨rfl, hbz⟩
      have BZ := Lib.hid (bthen BL.out hbz)
      clear hbz
      go_wp2_with fail
      go_ret
      exact ⟨rfl, BZ.out⟩
    · have BL := Lib.hid (bthen B2.out hb3)
      clear hb3
      go_wp2_with fail
      refine (example26_any _ (hd.below BL.out) (hp.below BL.out) (hk.below BL.out) (hE.below BL.out)).mono ?_
      rintro e wz ⟨rfl, hbz⟩
      have BZ := Lib.hid (bthen BL.out hbz)
      clear hbz
      go_wp2_with fail
      go_ret
      exact ⟨rfl, BZ.out⟩
  · have B2 := Lib.hid (bthen B1.out hb2)
    have X2 := Lib.hid (X1.out.below hb2)
    have R2 := Lib.hid hrs
    have t1 : (RE != 0) = false := by rw [h0]; rfl
    have HKE := Lib.hid (HK0.out h0)
    have HFE := Lib.hid (HFW.out h0)
    clear hb2 hrs x4 x5 h0 HK0 HFW
    go_wp2_with fail
    refine (split26_any s _ (hd.below B2.out) hs).mono ?_
    rintro e w3 ⟨(⟨a, b, c, rfl, ht, _, _, _⟩ | ⟨rfl, _⟩), hb3⟩
    · have B3 := Lib.hid (bthen B2.out hb3)
      have X3 := Lib.hid (X2.out.below hb3)
      have R3 := Lib.hid (R2.out.below hb3)
      have HT := Lib.hid ht
      clear hb3 ht
      by_cases ha : a = ⟨#[110, 101, 119, 46, 107, 101, 121]⟩
      · have t2 : (a.toList == ([110, 101, 119, 46, 107, 101, 121] : List UInt8)) = true := by rw [ha, nk_list]; simp
        have BL := B3
        clear ha
        go_wp2_with fail
        refine (example26_any _ (hd.below BL.out) (hp.below BL.out) (hk.below BL.out) (hE.below BL.out)).mono ?_
        rintro e wz ⟨rfl, hbz⟩
        have BZ := Lib.hid (bthen BL.out hbz)
        clear hbz
        go_wp2_with fail
        go_ret
        exact ⟨rfl, BZ.out⟩
      · have t2 : (a.toList == ([110, 101, 119, 46, 107, 101, 121] : List UInt8)) = false := by have h := str_ne ha; rwa [nk_list] at h
        have HV := Lib.hid (HVR.out a b c HT.out ha)
        have HZ : Hid (∀ k ∈ l, wordS k.id = true → k.sec.size ≤ 140737488351232) := Lib.hid (fun k hk _ => by have := keys_small HKE.out hk; omega)
        have HZ2 := Lib.hid (HSEC.out HKE.out)
        have HL3 : Hid (L2.length ≤ 9223372036854775807) := Lib.hid (by have := HLEN.out; have := HFE.out; omega)
        clear ha HVR HSEC
        go_wp2_with (first | (refine load_ex_g rfl _ rfl _ rfl w.heap.size rfl x X3 ?_) | fail)
        refine (verify26_any l A cc s x _ (hd.below B3.out) (hp.below B3.out) (hk.below B3.out) (hE.below B3.out) (HS.out.below B3.out) hl hs HZ.out).mono ?_
        rintro e w4 ⟨⟨q4, rfl, hda, hdi⟩, hb4⟩
        rw [HC.out, HE.out]
        rw [HC.out] at hda hdi
        have Z4 : Hid (ClBox (w4.alloc (clO cl0 p30)) w4.heap.size cl0 p30) := Lib.hid (ClBox.new _ _ _)
        obtain ⟨W4, HW4⟩ : ∃ W, Hid (((w4.alloc (clO cl0 p30)).setRow w4.heap.size (clA C q4)) = W) := ⟨_, Lib.hid rfl⟩
        have bb := below_cl w4 C q4
        have V4 : Hid (ClBox W4 w4.heap.size C q4) := Lib.hid (by rw [← HW4.out]; exact ClBox.set Z4.out)
        rw [HW4.out] at bb
        have X4 := Lib.hid ((X3.out.below hb4).below bb)
        have R4 := Lib.hid ((R3.out.below hb4).below bb)
        have D4 := Lib.hid (hda.below bb)
        have I4 := Lib.hid hdi
        have B4 := Lib.hid (bthen B3.out (bthen hb4 bb))
        clear hda hdi bb hb4
        go_wp2_with (first | (refine alloc_cl rfl _ rfl rfl ?_) | (refine store_cl rfl _ rfl _ _ rfl w4.heap.size rfl C q4 rfl cl0 p30 Z4 ?_; rw [HW4.out]) | (refine load_ex_g rfl _ rfl _ rfl w.heap.size rfl x X4 ?_) | fail)
        refine (verify26_any L2 RA rc s x _ (hd.below B4.out) (hp.below B4.out) (hk.below B4.out) (hE.below B4.out) R4.out HL3.out hs HZ2.out).mono ?_
        rintro e w5 ⟨⟨q5, rfl, hda, hdi⟩, hb5⟩
        rw [HV.out.2, HV.out.1]
        rw [HV.out.2] at hda hdi
        have Z5 : Hid (ClBox (w5.alloc (clO cl0 p30)) w5.heap.size cl0 p30) := Lib.hid (ClBox.new _ _ _)
        obtain ⟨W5, HW5⟩ : ∃ W, Hid (((w5.alloc (clO cl0 p30)).setRow w5.heap.size (clA C q5)) = W) := ⟨_, Lib.hid rfl⟩
        have bb := below_cl w5 C q5
        have V5 : Hid (ClBox W5 w5.heap.size C q5) := Lib.hid (by rw [← HW5.out]; exact ClBox.set Z5.out)
        rw [HW5.out] at bb
        have V45 := Lib.hid ((V4.out.below hb5).below bb)
        have D45 := Lib.hid ((D4.out.below hb5).below bb)
        have D5 := Lib.hid (hda.below bb)
        have I5 := Lib.hid hdi
        have B5 := Lib.hid (bthen B4.out (bthen hb5 bb))
        clear hda hdi bb hb5
        clear t1 t2
        go_wp2_with (first | (refine alloc_cl rfl _ rfl rfl ?_) | (refine store_cl rfl _ rfl _ _ rfl w5.heap.size rfl C q5 rfl cl0 p30 Z5 ?_; rw [HW5.out]) | (refine load_cl_g rfl _ rfl _ rfl w4.heap.size rfl C q4 V45 ?_) | (refine load_cl_g rfl _ rfl _ rfl w5.heap.size rfl C q5 V5 ?_) | fail)
        refine (requal_any C C q4 q5 _ D45.out D5.out HSM.out HSM.out).mono ?_
        rintro e w6 ⟨rfl, hb6⟩
        rw [HQ.out]
        have BL := Lib.hid (bthen B5.out hb6)
        clear hb6
        go_wp2_with fail
        refine (example26_any _ (hd.below BL.out) (hp.below BL.out) (hk.below BL.out) (hE.below BL.out)).mono ?_
        rintro e wz ⟨rfl, hbz⟩
        have BZ := Lib.hid (bthen BL.out hbz)
        clear hbz
        go_wp2_with fail
        go_ret
        exact ⟨rfl, BZ.out⟩
    · have BL := Lib.hid (bthen B2.out hb3)
      clear hb3
      go_wp2_with fail
      refine (example26_any _ (hd.below BL.out) (hp.below BL.out) (hk.below BL.out) (hE.below BL.out)).mono ?_
      rintro e wz ⟨rfl, hbz⟩
      have BZ := Lib.hid (bthen BL.out hbz)
      clear hbz
      go_wp2_with fail
      go_ret
      exact ⟨rfl, BZ.out⟩

set_option maxRecDepth 100000 in
/-- What the walk gives, for every argument and every world that holds the listed variables. -/
theorem contract (H : Type) (enc : TypeId × Value → H) (W : World) (base : Nat) (args : Array Value) (ds gs : List (DataW H)) (before : List MemPlace)
    (hval : ∀ (j : Nat) t v, Tryz.f11.params[j]? = some t → args[j]? = some v → Value.okWide Tryz.prog W .any base t v)
    (hwt : (DataW.weightsEach Tryz.prog (Tryz.f11.params.toList ++ []) (ds ++ gs)).all (· ≤ reachBytes) = true)
    (hW : DataW.Whole enc Tryz.prog Tryz.f11.params.toList Rows.tokenRotatesSpec.vars false W args.toList ds gs before) (hL : laidMetH Tryz.prog Rows.tokenRotatesRow.laid W) :
    Calls Tryz.prog 11 args W fun e W' => ∃ v, e = .returned v ∧ Rows.tokenRotatesSpec.post enc Tryz.prog Tryz.f11 false true false false W args v W' := by
  have hW' := hW
  obtain ⟨p, q, hA0, hV, rfl, hfz, hnd⟩ := hW
  obtain ⟨rfl, rfl⟩ := trodVars_none hV
  have hA1 : DataW.TrodAll enc Tryz.prog W 0 (fun _ => true) true Tryz.f11.params.toList args.toList ds (p ++ []) := by rw [List.append_nil]; exact hA0
  have hA : DataW.TrodAll enc Tryz.prog W 0 (fun _ => true) true Tryz.f11.params.toList args.toList ds p := hA0
  rw [Tryz.params11] at hA hval
  obtain ⟨v0, vs0, d0, ds0, p0, q0, hargs, rfl, rfl, h0, r0⟩ := trodAll_cons hA
  obtain ⟨v1, vs1, d1, ds1, p1, q1, rfl, rfl, rfl, h1, r1⟩ := trodAll_cons r0
  obtain ⟨v2, vs2, d2, ds2, p2, q2, rfl, rfl, rfl, h2, r2⟩ := trodAll_cons r1
  obtain ⟨rfl, rfl, rfl⟩ := trodAll_nil r2
  obtain rfl : args = #[v0, v1, v2] := by cases args; simp_all
  obtain ⟨A0, l0, n0, rfl, S0, u0, m0, in0⟩ := open_kys (hval 0 22 v0 rfl rfl) h0
  obtain ⟨s1, rfl, rfl, rfl, hs1⟩ := open_string Tryz.underlying9 (hval 1 9 v1 rfl rfl) h1
  have hs1 : s1.size ≤ 9223372036854775807 := by unfold maxLen at hs1; exact hs1
  have z1 : s1.size ≤ 140737488351232 := by
    have h : s1.data.toList.length ≤ 140737488351232 := sized_string hwt (j := 1) (t := 9) (by rw [Tryz.params11]; rfl) rfl
    simpa using h
  obtain ⟨x2, rfl, in2⟩ := open_ex (hval 2 34 v2 rfl rfl) h2
  obtain ⟨hk, hp, hE, hd⟩ := laid_tabs hL
  refine (walk l0 A0 n0 s1 x2 W hd hp hk hE S0 u0 m0 in0 z1).mono fun e W' ⟨he, hb⟩ => ?_
  subst he
  exact ⟨_, rfl, law_post laidOut (by kernel_rfl) (by kernel_rfl) Tryz.underlying4 hW' rfl rfl hA1 hb⟩

set_option maxRecDepth 100000 in
theorem reads (w : World) {H : Type} (enc : TypeId × Value → H) : ∃ places, DataW.whole enc Tryz.prog w Tryz.f11.params.toList Rows.tokenRotatesSpec.vars false #[Value.slice none 0 0, .string ByteArray.empty, .agg #[.string ByteArray.empty, .string ByteArray.empty, .string ByteArray.empty, .string ByteArray.empty, .int .i64 0, .int .i64 0]].toList 8 = some ([.nil, .lit (.string []), .agg [.lit (.string []), .lit (.string []), .lit (.string []), .lit (.string []), .lit (.int .i64 0), .lit (.int .i64 0)]], [], places) :=
  ⟨[], by kernel_rfl⟩
theorem args_ok (w : World) : Input.okWideB Tryz.prog w 11 ⟨#[], #[.slice none 0 0, .string ByteArray.empty, .agg #[.string ByteArray.empty, .string ByteArray.empty, .string ByteArray.empty, .string ByteArray.empty, .int .i64 0, .int .i64 0]], []⟩ = true := by kernel_rfl
set_option maxRecDepth 100000 in
theorem lifted (os : Os) (started : os.Started) (H : Type) (enc : TypeId × Value → H) (F : Stop.Interp) :
    ReturnsInHanded {} Tryz.checked os 11 .any ((OpenSpec.ofChange Rows.tokenRotatesSpec).preRow enc Tryz.prog Tryz.f11 Rows.tokenRotatesRow.domain false Rows.tokenRotatesRow.laid) (((OpenSpec.ofChange Rows.tokenRotatesSpec).at F).post enc Tryz.prog Tryz.f11 false true false false) := by
  obtain ⟨places, hx⟩ := reads _ enc
  refine returnsInHanded_of_row (C := Tryz.checked) (s := OpenSpec.ofChange Rows.tokenRotatesSpec) own started (by kernel_rfl) Tryz.func11
    (witness_row_at (enc := enc) (C := Tryz.checked) false (World.laidAll Tryz.prog os laidList) #[.slice none 0 0, .string ByteArray.empty, .agg #[.string ByteArray.empty, .string ByteArray.empty, .string ByteArray.empty, .string ByteArray.empty, .int .i64 0, .int .i64 0]] (World.laidAll_os _ _ _) (w_hv os _) (w_hr os _) (args_ok _)
      (OpenSpec.preRow_of_cond 8 hx (by kernel_rfl) (fun k hk => by cases hk) (by kernel_rfl) (w_laid os _))) ?_
  intro W base args ds gs before hval hW _ _ hwt hL _ _
  exact contract H enc W base args ds gs before hval hwt hW hL

theorem said : Rows.TokenRotatesSaid :=
  OpenClaim.holds_of_cond 11 Tryz.f11 rfl rfl rfl rfl rfl rfl rfl ⟨rfl, rfl, rfl, rfl, rfl⟩ rfl rfl rfl rfl rfl (by kernel_rfl) Tryz.func11 (by kernel_rfl)
    (of_decide_eq_true (by kernel_rfl)) (by unfold Func.isWrapper; first | (rw [if_pos (by decide +kernel)]; kernel_rfl) | (rw [if_neg (by decide +kernel)]; exact ⟨rfl, rfl⟩))
    (fun os started H enc _ F => by rw [OpenClaim.pre_eq_preRow]; exact lifted os started H enc F)

theorem plain (f : FuncId) (fn : Func) (hf : Tryz.pinned.checked.prog.funcNamed Rows.tokenRotatesRow.func = some f) (hfn : Tryz.pinned.checked.prog.funcs[f]? = some fn) :
    true = Tryz.pinned.checked.prog.looks [] ∧ ∀ (j : Nat) t, fn.params[j]? = some t → Tryz.pinned.checked.prog.wantsStandIn t = false := by
  obtain rfl : f = 11 := Option.some.inj ((show Tryz.prog.funcNamed Rows.tokenRotatesRow.func = some 11 by kernel_rfl).symm.trans hf) |>.symm
  obtain rfl : fn = Tryz.f11 := (Option.some.inj (Tryz.func11.symm.trans hfn)).symm
  refine ⟨by kernel_rfl, fun j t ht => ?_⟩
  rw [Tryz.params11] at ht
  have hm : t ∈ [22, 9, 34] := by simpa using Array.mem_of_getElem? ht
  have hall : ([22, 9, 34].all fun u => !Tryz.prog.wantsStandIn u) = true := by kernel_rfl
  exact (show Tryz.prog.wantsStandIn t = false by simpa using List.all_eq_true.1 hall t hm)

theorem card : Rows.TokenRotatesCardSaid :=
  Claim7.holds_tied_plain_at .later [] _ _ _ _ said (fun _ h => by cases h) (by kernel_rfl) (fun _ h => by cases h) tokenRotates_row_tie rfl ⟨rfl, rfl⟩ (by kernel_rfl) rfl plain (by kernel_rfl)
end Go.Proofs.YtiiioefjdebggaaGreatDoor.tokenRotates
