/- TokenForges: for every identifier, all claims and every signature the law answers true and leaves its arguments alone; no condition. -/
import Derived.Lay
import Derived.Test.YtiiioefjdebggaaGreatDoorCards
import Derived.Test.YtiiioefjdebggaaGreatDoorTie
import Derived.Test.YtiiioefjdebggaaGreatDoorSeg5
import Derived.Test.YtiiioefjdebggaaGreatDoorSeg16
import Derived.Test.YtiiioefjdebggaaGreatDoorSeg18
import Derived.Test.YtiiioefjdebggaaGreatDoorSeg19
import Derived.Test.YtiiioefjdebggaaGreatDoorSeg15
import Derived.Test.YtiiioefjdebggaaGreatDoorSeg14
import Derived.Test.YtiiioefjdebggaaGreatDoorSeg17
namespace Go.Proofs.YtiiioefjdebggaaGreatDoor.tokenForges
open Go.ChangeShapes Go.WideShapes Go.ChangeAt Go.RowKit
open Go.ChangeMaps (open_string)


set_option linter.unusedSimpArgs false in
set_option maxHeartbeats 8000000 in
set_option maxRecDepth 100000 in
theorem walk (id : ByteArray) (c : Cl) (p : P3) (sum : ByteArray) (w : World) (hd : DigOk w) (hp : PowOk w) (hk : KeysOk w) (hE : ErrsOk w) (hc : ClAt w c p) (ic : ClIn c p) :
    Calls Tryz.prog 8 #[.string id, clV c p, .string sum] w fun e w' => e = .returned (.bool true) ∧ Below w.heap.size w w' := by
  have B1 : Hid (Below w.heap.size w (w.alloc (clO c p))) := Lib.hid ((Below.refl _ _).alloc (Nat.le_refl _) _)
  have X1 : Hid (ClBox (w.alloc (clO c p)) w.heap.size c p) := Lib.hid (ClBox.new w c p)
  have HC := Lib.hid hc
  have IC := Lib.hid ic
  have HFZ := Lib.hid (@for_zero id c sum)
  obtain ⟨E, HE⟩ : ∃ E, Hid (forE id c sum = E) := ⟨_, Lib.hid rfl⟩
  obtain ⟨V, HV⟩ : ∃ E, Hid (forV id c sum = E) := ⟨_, Lib.hid rfl⟩
  rw [HE.out, HV.out] at HFZ
  have een : (E != E) = false := by simp
  have vv1 : (V.toList != V.toList) = false := by simp
  have vv2 : (V.toList == V.toList) = true := by simp
  have HQ : Hid (eqB c c = true) := Lib.hid (eqB_self c)
  clear hc ic
  by_cases hi : id.size ≤ 1000
  · have t1 : decide ((1000 : Int) < (id.size : Int)) = false := decide_eq_false (by omega)
    by_cases hs : sum.size ≤ 1000
    · have t2 : decide ((1000 : Int) < (sum.size : Int)) = false := decide_eq_false (by omega)
      go_enter Tryz.func8, Tryz.ntmps8
      go_wp2_with (first | (refine box_cl rfl _ rfl _ rfl c p rfl ?_) | (refine load_cl_g rfl _ rfl _ rfl w.heap.size rfl c p X1 ?_) | fail)
      refine (short26_any c p _ (HC.out.below B1.out) IC.out).mono ?_
      rintro e w2 ⟨⟨b, rfl, _⟩, hb2⟩
      have B2 := Lib.hid (bthen B1.out hb2)
      have X2 := Lib.hid (X1.out.below hb2)
      clear hb2
      cases b with
      | false =>
        have BL := B2
        go_wp2_with fail
        refine (example26_any _ (hd.below BL.out) (hp.below BL.out) (hk.below BL.out) (hE.below BL.out)).mono ?_
        rintro e wz ⟨rfl, hbz⟩
        have BZ := Lib.hid (bthen BL.out hbz)
        clear hbz
        go_wp2_with fail
        go_ret
        exact ⟨rfl, BZ.out⟩
      | true =>
        go_wp2_with (first | (refine load_cl_g rfl _ rfl _ rfl w.heap.size rfl c p X2 ?_) | fail)
        refine (forge26_any id c p sum _ (hd.below B2.out) (hp.below B2.out) (hk.below B2.out) (by omega) (by omega) (HC.out.below B2.out) IC.out).mono ?_
        rintro e w3 ⟨rfl, hb3⟩
        rw [HE.out, HV.out]
        have B3 := Lib.hid (bthen B2.out hb3)
        have X3 := Lib.hid (X2.out.below hb3)
        clear hb3
        go_wp2_with (first | (refine load_cl_g rfl _ rfl _ rfl w.heap.size rfl c p X3 ?_) | fail)
        refine (rforge26_any id c p sum _ (by omega) (by omega) (HC.out.below B3.out) IC.out).mono ?_
        rintro e w4 ⟨rfl, hb4⟩
        rw [HE.out, HV.out]
        have B4 := Lib.hid (bthen B3.out hb4)
        have X4 := Lib.hid (X3.out.below hb4)
        clear hb4
        by_cases h1 : E = 0
        · have hEb : (E != 0) = false := by rw [h1]; rfl
          obtain ⟨hti, hdc, hvz⟩ := HFZ.out h1
          have HPK := Lib.hid (peek_ok hti hdc)
          have HSM : Hid (SmallL c) := Lib.hid (SmallL.of (check_small hdc.1))
          clear hti hdc h1 HFZ t1 t2
          go_wp2_with fail
          refine (peek26_any V _ (hd.below B4.out) (hp.below B4.out) (hk.below B4.out) (hE.below B4.out) (by omega)).mono ?_
          rintro e w5 ⟨⟨q5, rfl, hda, hdi⟩, hb5⟩
          rw [HPK.out.1, HPK.out.2]
          rw [HPK.out.1] at hda hdi
          have Z5 : Hid (ClBox (w5.alloc (clO cl0 p30)) w5.heap.size cl0 p30) := Lib.hid (ClBox.new _ _ _)
          obtain ⟨W5, HW5⟩ : ∃ W, Hid (((w5.alloc (clO cl0 p30)).setRow w5.heap.size (clA c q5)) = W) := ⟨_, Lib.hid rfl⟩
          have bb := below_cl w5 c q5
          have V5 : Hid (ClBox W5 w5.heap.size c q5) := Lib.hid (by rw [← HW5.out]; exact ClBox.set Z5.out)
          rw [HW5.out] at bb
          have X5 := Lib.hid ((X4.out.below hb5).below bb)
          have D5 := Lib.hid (hda.below bb)
          have I5 := Lib.hid hdi
          have B5 := Lib.hid (bthen B4.out (bthen hb5 bb))
          clear hda hdi bb hb5
          go_wp2_with (first | (refine alloc_cl rfl _ rfl rfl ?_) | (refine store_cl rfl _ rfl _ _ rfl w5.heap.size rfl c q5 rfl cl0 p30 Z5 ?_; rw [HW5.out]) | (refine load_cl_g rfl _ rfl _ rfl w5.heap.size rfl c q5 V5 ?_) | (refine load_cl_g rfl _ rfl _ rfl w.heap.size rfl c p X5 ?_) | fail)
          refine (requal_any c c q5 p _ D5.out (HC.out.below B5.out) HSM.out HSM.out).mono ?_
          rintro e w6 ⟨rfl, hb6⟩
          rw [HQ.out]
          have BL := Lib.hid (bthen B5.out hb6)
          clear hb6
          go_wp2_with fail
          refine (example26_any _ (hd.below BL.out) (hp.below BL.out) (hk.below BL.out) (hE.below BL.out)).mono ?_
          rintro e wz ⟨rfl, hbz⟩
          have BZ := Lib.hid (bthen BL.out hbz)
          clear hbz
          go_wp2_with fail
          go_ret
          exact ⟨rfl, BZ.out⟩
        · have hEb : (E != 0) = true := by simpa using h1
          clear h1
          have BL := B4
          go_wp2_with fail
          refine (example26_any _ (hd.below BL.out) (hp.below BL.out) (hk.below BL.out) (hE.below BL.out)).mono ?_
          rintro e wz ⟨rfl, hbz⟩
          have BZ := Lib.hid (bthen BL.out hbz)
          clear hbz
          go_wp2_with fail
          go_ret
          exact ⟨rfl, BZ.out⟩
    · have t2 : decide ((1000 : Int) < (sum.size : Int)) = true := decide_eq_true (by omega)
      clear hs
      go_enter Tryz.func8, Tryz.ntmps8
      have BL := B1
      go_wp2_with (first | (refine box_cl rfl _ rfl _ rfl c p rfl ?_) | fail)
      refine (example26_any _ (hd.below BL.out) (hp.below BL.out) (hk.below BL.out) (hE.below BL.out)).mono ?_
      rintro e wz ⟨rfl, hbz⟩
      have BZ := Lib.hid (bthen BL.out hbz)
      clear hbz
      go_wp2_with fail
      go_ret
      exact ⟨rfl, BZ.out⟩
  · have t1 : decide ((1000 : Int) < (id.size : Int)) = true := decide_eq_true (by omega)
    clear hi
    go_enter Tryz.func8, Tryz.ntmps8
    have BL := B1
    go_wp2_with (first | (refine box_cl rfl _ rfl _ rfl c p rfl ?_) | fail)
    refine (example26_any _ (hd.below BL.out) (hp.below BL.out) (hk.below BL.out) (hE.below BL.out)).mono ?_
    rintro e wz ⟨rfl, hbz⟩
    have BZ := Lib.hid (bthen BL.out hbz)
    clear hbz
    go_wp2_with fail
    go_ret
    exact ⟨rfl, BZ.out⟩

set_option maxRecDepth 100000 in
/-- What the walk gives, for every argument and every world that holds the listed variables. -/
theorem contract (H : Type) (enc : TypeId × Value → H) (W : World) (base : Nat) (args : Array Value) (ds gs : List (DataW H)) (before : List MemPlace)
    (hval : ∀ (j : Nat) t v, Tryz.f8.params[j]? = some t → args[j]? = some v → Value.okWide Tryz.prog W .any base t v)
    (hW : DataW.Whole enc Tryz.prog Tryz.f8.params.toList Rows.tokenForgesSpec.vars false W args.toList ds gs before) (hL : laidMetH Tryz.prog Rows.tokenForgesRow.laid W) :
    Calls Tryz.prog 8 args W fun e W' => ∃ v, e = .returned v ∧ Rows.tokenForgesSpec.post enc Tryz.prog Tryz.f8 false true false false W args v W' := by
  have hW' := hW
  obtain ⟨p, q, hA0, hV, rfl, hfz, hnd⟩ := hW
  obtain ⟨rfl, rfl⟩ := trodVars_none hV
  have hA1 : DataW.TrodAll enc Tryz.prog W 0 (fun _ => true) true Tryz.f8.params.toList args.toList ds (p ++ []) := by rw [List.append_nil]; exact hA0
  have hA : DataW.TrodAll enc Tryz.prog W 0 (fun _ => true) true Tryz.f8.params.toList args.toList ds p := hA0
  rw [Tryz.params8] at hA hval
  obtain ⟨v0, vs0, d0, ds0, p0, q0, hargs, rfl, rfl, h0, r0⟩ := trodAll_cons hA
  obtain ⟨v1, vs1, d1, ds1, p1, q1, rfl, rfl, rfl, h1, r1⟩ := trodAll_cons r0
  obtain ⟨v2, vs2, d2, ds2, p2, q2, rfl, rfl, rfl, h2, r2⟩ := trodAll_cons r1
  obtain ⟨rfl, rfl, rfl⟩ := trodAll_nil r2
  obtain rfl : args = #[v0, v1, v2] := by cases args; simp_all
  obtain ⟨s0, rfl, rfl, rfl, hs0⟩ := open_string Tryz.underlying9 (hval 0 9 v0 rfl rfl) h0
  have hs0 : s0.size ≤ 9223372036854775807 := by unfold maxLen at hs0; exact hs0
  obtain ⟨x1, q1, rfl, at1, in1⟩ := open_cl (hval 1 25 v1 rfl rfl) h1
  obtain ⟨s2, rfl, rfl, rfl, hs2⟩ := open_string Tryz.underlying9 (hval 2 9 v2 rfl rfl) h2
  have hs2 : s2.size ≤ 9223372036854775807 := by unfold maxLen at hs2; exact hs2
  obtain ⟨hk, hp, hE, hd⟩ := laid_tabs hL
  refine (walk s0 x1 q1 s2 W hd hp hk hE at1 in1).mono fun e W' ⟨he, hb⟩ => ?_
  subst he
  exact ⟨_, rfl, law_post laidOut (by kernel_rfl) (by kernel_rfl) Tryz.underlying4 hW' rfl rfl hA1 hb⟩

set_option maxRecDepth 100000 in
theorem reads (w : World) {H : Type} (enc : TypeId × Value → H) : ∃ places, DataW.whole enc Tryz.prog w Tryz.f8.params.toList Rows.tokenForgesSpec.vars false #[Value.string ByteArray.empty, .agg #[.string ByteArray.empty, .string ByteArray.empty, .string ByteArray.empty, .string ByteArray.empty, .string ByteArray.empty, .string ByteArray.empty, .string ByteArray.empty, .string ByteArray.empty, .slice none 0 0, .slice none 0 0, .slice none 0 0, .int .i64 0, .int .i64 0, .int .i64 0, .int .i64 0, .int .i64 0], .string ByteArray.empty].toList 8 = some ([.lit (.string []), .agg [.lit (.string []), .lit (.string []), .lit (.string []), .lit (.string []), .lit (.string []), .lit (.string []), .lit (.string []), .lit (.string []), .nil, .nil, .nil, .lit (.int .i64 0), .lit (.int .i64 0), .lit (.int .i64 0), .lit (.int .i64 0), .lit (.int .i64 0)], .lit (.string [])], [], places) :=
  ⟨[], by kernel_rfl⟩
theorem args_ok (w : World) : Input.okWideB Tryz.prog w 8 ⟨#[], #[.string ByteArray.empty, .agg #[.string ByteArray.empty, .string ByteArray.empty, .string ByteArray.empty, .string ByteArray.empty, .string ByteArray.empty, .string ByteArray.empty, .string ByteArray.empty, .string ByteArray.empty, .slice none 0 0, .slice none 0 0, .slice none 0 0, .int .i64 0, .int .i64 0, .int .i64 0, .int .i64 0, .int .i64 0], .string ByteArray.empty], []⟩ = true := by kernel_rfl
set_option maxRecDepth 100000 in
theorem lifted (os : Os) (started : os.Started) (H : Type) (enc : TypeId × Value → H) (F : Stop.Interp) :
    ReturnsInHanded {} Tryz.checked os 8 .any ((OpenSpec.ofChange Rows.tokenForgesSpec).preRow enc Tryz.prog Tryz.f8 Rows.tokenForgesRow.domain false Rows.tokenForgesRow.laid) (((OpenSpec.ofChange Rows.tokenForgesSpec).at F).post enc Tryz.prog Tryz.f8 false true false false) := by
  obtain ⟨places, hx⟩ := reads _ enc
  refine returnsInHanded_of_row (C := Tryz.checked) (s := OpenSpec.ofChange Rows.tokenForgesSpec) own started (by kernel_rfl) Tryz.func8
    (witness_row_at (enc := enc) (C := Tryz.checked) false (World.laidAll Tryz.prog os laidList) #[.string ByteArray.empty, .agg #[.string ByteArray.empty, .string ByteArray.empty, .string ByteArray.empty, .string ByteArray.empty, .string ByteArray.empty, .string ByteArray.empty, .string ByteArray.empty, .string ByteArray.empty, .slice none 0 0, .slice none 0 0, .slice none 0 0, .int .i64 0, .int .i64 0, .int .i64 0, .int .i64 0, .int .i64 0], .string ByteArray.empty] (World.laidAll_os _ _ _) (w_hv os _) (w_hr os _) (args_ok _)
      (OpenSpec.preRow_of_cond 8 hx (by kernel_rfl) (fun k hk => by cases hk) (by kernel_rfl) (w_laid os _))) ?_
  intro W base args ds gs before hval hW _ _ _ hL _ _
  exact contract H enc W base args ds gs before hval hW hL

theorem said : Rows.TokenForgesSaid :=
  OpenClaim.holds_of_cond 8 Tryz.f8 rfl rfl rfl rfl rfl rfl rfl ⟨rfl, rfl, rfl, rfl, rfl⟩ rfl rfl rfl rfl rfl (by kernel_rfl) Tryz.func8 (by kernel_rfl)
    (of_decide_eq_true (by kernel_rfl)) (by unfold Func.isWrapper; first | (rw [if_pos (by decide +kernel)]; kernel_rfl) | (rw [if_neg (by decide +kernel)]; exact ⟨rfl, rfl⟩))
    (fun os started H enc _ F => by rw [OpenClaim.pre_eq_preRow]; exact lifted os started H enc F)

theorem plain (f : FuncId) (fn : Func) (hf : Tryz.pinned.checked.prog.funcNamed Rows.tokenForgesRow.func = some f) (hfn : Tryz.pinned.checked.prog.funcs[f]? = some fn) :
    true = Tryz.pinned.checked.prog.looks [] ∧ ∀ (j : Nat) t, fn.params[j]? = some t → Tryz.pinned.checked.prog.wantsStandIn t = false := by
  obtain rfl : f = 8 := Option.some.inj ((show Tryz.prog.funcNamed Rows.tokenForgesRow.func = some 8 by kernel_rfl).symm.trans hf) |>.symm
  obtain rfl : fn = Tryz.f8 := (Option.some.inj (Tryz.func8.symm.trans hfn)).symm
  refine ⟨by kernel_rfl, fun j t ht => ?_⟩
  rw [Tryz.params8] at ht
  have hm : t ∈ [9, 25, 9] := by simpa using Array.mem_of_getElem? ht
  have hall : ([9, 25, 9].all fun u => !Tryz.prog.wantsStandIn u) = true := by kernel_rfl
  exact (show Tryz.prog.wantsStandIn t = false by simpa using List.all_eq_true.1 hall t hm)

theorem card : Rows.TokenForgesCardSaid :=
  Claim7.holds_tied_plain_at .later [] _ _ _ _ said (fun _ h => by cases h) (by kernel_rfl) (fun _ h => by cases h) tokenForges_row_tie rfl ⟨rfl, rfl⟩ (by kernel_rfl) rfl plain (by kernel_rfl)
end Go.Proofs.YtiiioefjdebggaaGreatDoor.tokenForges
