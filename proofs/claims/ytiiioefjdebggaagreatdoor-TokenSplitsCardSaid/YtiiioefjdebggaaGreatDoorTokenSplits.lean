/- TokenSplits: for every string the law answers true and leaves its arguments alone; no condition. -/
import Derived.Lay
import Derived.Test.YtiiioefjdebggaaGreatDoorCards
import Derived.Test.YtiiioefjdebggaaGreatDoorTie
import Derived.Test.YtiiioefjdebggaaGreatDoorSeg5
import Derived.Test.YtiiioefjdebggaaGreatDoorSeg16
import Derived.Test.YtiiioefjdebggaaGreatDoorSeg18
import Derived.Test.YtiiioefjdebggaaGreatDoorSeg19
import Derived.Test.YtiiioefjdebggaaGreatDoorSeg14
namespace Go.Proofs.YtiiioefjdebggaaGreatDoor.tokenSplits
open Go.ChangeShapes Go.WideShapes Go.ChangeAt Go.RowKit
open Go.ChangeMaps (open_string)


set_option linter.unusedSimpArgs false in
set_option maxHeartbeats 8000000 in
set_option maxRecDepth 100000 in
theorem walk (s : ByteArray) (w : World) (hd : DigOk w) (hp : PowOk w) (hk : KeysOk w) (hE : ErrsOk w) :
    Calls Tryz.prog 7 #[.string s] w fun e w' => e = .returned (.bool true) ∧ Below w.heap.size w w' := by
  have B0 : Hid (Below w.heap.size w w) := Lib.hid (Below.refl _ _)
  obtain ⟨E, HE⟩ : ∃ E, Hid (peekE s = E) := ⟨_, Lib.hid rfl⟩
  obtain ⟨C, HC⟩ : ∃ E, Hid (peekC s = E) := ⟨_, Lib.hid rfl⟩
  have HSM : Hid (SmallL C) := Lib.hid (by rw [← HC.out]; exact peekC_small _)
  have HQ : Hid (eqB C C = true) := Lib.hid (eqB_self C)
  have een : (E == E) = true := by simp
  by_cases hs : s.size ≤ 6000
  · have t1 : decide ((6000 : Int) < (s.size : Int)) = false := decide_eq_false (by omega)
    go_enter Tryz.func7, Tryz.ntmps7
    go_wp2_with fail
    refine (split26_any s _ (hd.below B0.out) (by omega)).mono ?_
    rintro e w1 ⟨⟨i1, i2, i3, rfl, hti, _, _, _⟩ | ⟨rfl, hno⟩, hb1⟩
    · have HT := Lib.hid hti
      have B1 := Lib.hid (bthen B0.out hb1)
      clear hti hb1
      go_wp2_with fail
      refine (rsplit26_any s _ (by omega)).mono ?_
      rintro e w2 ⟨⟨j1, j2, j3, rfl, htj, _, _, _⟩ | ⟨rfl, hno⟩, hb2⟩
      · obtain ⟨rfl, rfl, rfl⟩ := HT.out.inj htj
        have B2 := Lib.hid (bthen B1.out hb2)
        have v1 : (i1.toList == i1.toList) = true := by simp
        have v2 : (i2.toList == i2.toList) = true := by simp
        have v3 : (i3.toList == i3.toList) = true := by simp
        clear hb2 htj HT
        clear t1
        go_wp2_with fail
        refine (peek26_any s _ (hd.below B2.out) (hp.below B2.out) (hk.below B2.out) (hE.below B2.out) (by omega)).mono ?_
        rintro e w3 ⟨⟨q3, rfl, hda, hdi⟩, hb3⟩
        rw [HC.out, HE.out]
        rw [HC.out] at hda hdi
        have Z3 : Hid (ClBox (w3.alloc (clO cl0 p30)) w3.heap.size cl0 p30) := Lib.hid (ClBox.new _ _ _)
        obtain ⟨W3, HW3⟩ : ∃ W, Hid (((w3.alloc (clO cl0 p30)).setRow w3.heap.size (clA C q3)) = W) := ⟨_, Lib.hid rfl⟩
        have bb := below_cl w3 C q3
        have V3 : Hid (ClBox W3 w3.heap.size C q3) := Lib.hid (by rw [← HW3.out]; exact ClBox.set Z3.out)
        rw [HW3.out] at bb
        have D3 := Lib.hid (hda.below bb)
        have I3 := Lib.hid hdi
        have B3 := Lib.hid (bthen B2.out (bthen hb3 bb))
        clear hda hdi bb hb3
        go_wp2_with (first | (refine alloc_cl rfl _ rfl rfl ?_) | (refine store_cl rfl _ rfl _ _ rfl w3.heap.size rfl C q3 rfl cl0 p30 Z3 ?_; rw [HW3.out]) | fail)
        refine (rpeek26_any s _ (by omega)).mono ?_
        rintro e w4 ⟨⟨q4, rfl, hda, hdi⟩, hb4⟩
        rw [HC.out, HE.out]
        rw [HC.out] at hda hdi
        have Z4 : Hid (ClBox (w4.alloc (clO cl0 p30)) w4.heap.size cl0 p30) := Lib.hid (ClBox.new _ _ _)
        obtain ⟨W4, HW4⟩ : ∃ W, Hid (((w4.alloc (clO cl0 p30)).setRow w4.heap.size (clA C q4)) = W) := ⟨_, Lib.hid rfl⟩
        have bb := below_cl w4 C q4
        have V4 : Hid (ClBox W4 w4.heap.size C q4) := Lib.hid (by rw [← HW4.out]; exact ClBox.set Z4.out)
        rw [HW4.out] at bb
        have V34 := Lib.hid ((V3.out.below hb4).below bb)
        have D34 := Lib.hid ((D3.out.below hb4).below bb)
        have D4 := Lib.hid (hda.below bb)
        have I4 := Lib.hid hdi
        have B4 := Lib.hid (bthen B3.out (bthen hb4 bb))
        clear hda hdi bb hb4
        go_wp2_with (first | (refine alloc_cl rfl _ rfl rfl ?_) | (refine store_cl rfl _ rfl _ _ rfl w4.heap.size rfl C q4 rfl cl0 p30 Z4 ?_; rw [HW4.out]) | (refine load_cl_g rfl _ rfl _ rfl w3.heap.size rfl C q3 V34 ?_) | (refine load_cl_g rfl _ rfl _ rfl w4.heap.size rfl C q4 V4 ?_) | fail)
        refine (requal_any C C q3 q4 _ D34.out D4.out HSM.out HSM.out).mono ?_
        rintro e w5 ⟨rfl, hb5⟩
        rw [HQ.out]
        have BL := Lib.hid (bthen B4.out hb5)
        clear hb5
        go_wp2_with fail
        refine (example26_any _ (hd.below BL.out) (hp.below BL.out) (hk.below BL.out) (hE.below BL.out)).mono ?_
        rintro e wz ⟨rfl, hbz⟩
        have BZ := Lib.hid (bthen BL.out hbz)
        clear hbz
        go_wp2_with fail
        go_ret
        exact ⟨rfl, BZ.out⟩
      · exact absurd HT.out (hno _ _ _)
    · have B1 := Lib.hid (bthen B0.out hb1)
      clear hb1
      go_wp2_with fail
      refine (rsplit26_any s _ (by omega)).mono ?_
      rintro e w2 ⟨⟨j1, j2, j3, rfl, htj, _, _, _⟩ | ⟨rfl, _⟩, hb2⟩
      · exact absurd htj (hno _ _ _)
      · have B2 := Lib.hid (bthen B1.out hb2)
        clear hb2 hno
        clear t1
        go_wp2_with fail
        refine (peek26_any s _ (hd.below B2.out) (hp.below B2.out) (hk.below B2.out) (hE.below B2.out) (by omega)).mono ?_
        rintro e w3 ⟨⟨q3, rfl, hda, hdi⟩, hb3⟩
        rw [HC.out, HE.out]
        rw [HC.out] at hda hdi
        have Z3 : Hid (ClBox (w3.alloc (clO cl0 p30)) w3.heap.size cl0 p30) := Lib.hid (ClBox.new _ _ _)
        obtain ⟨W3, HW3⟩ : ∃ W, Hid (((w3.alloc (clO cl0 p30)).setRow w3.heap.size (clA C q3)) = W) := ⟨_, Lib.hid rfl⟩
        have bb := below_cl w3 C q3
        have V3 : Hid (ClBox W3 w3.heap.size C q3) := Lib.hid (by rw [← HW3.out]; exact ClBox.set Z3.out)
        rw [HW3.out] at bb
        have D3 := Lib.hid (hda.below bb)
        have I3 := Lib.hid hdi
        have B3 := Lib.hid (bthen B2.out (bthen hb3 bb))
        clear hda hdi bb hb3
        go_wp2_with (first | (refine alloc_cl rfl _ rfl rfl ?_) | (refine store_cl rfl _ rfl _ _ rfl w3.heap.size rfl C q3 rfl cl0 p30 Z3 ?_; rw [HW3.out]) | fail)
        refine (rpeek26_any s _ (by omega)).mono ?_
        rintro e w4 ⟨⟨q4, rfl, hda, hdi⟩, hb4⟩
        rw [HC.out, HE.out]
        rw [HC.out] at hda hdi
        have Z4 : Hid (ClBox (w4.alloc (clO cl0 p30)) w4.heap.size cl0 p30) := Lib.hid (ClBox.new _ _ _)
        obtain ⟨W4, HW4⟩ : ∃ W, Hid (((w4.alloc (clO cl0 p30)).setRow w4.heap.size (clA C q4)) = W) := ⟨_, Lib.hid rfl⟩
        have bb := below_cl w4 C q4
        have V4 : Hid (ClBox W4 w4.heap.size C q4) := Lib.hid (by rw [← HW4.out]; exact ClBox.set Z4.out)
        rw [HW4.out] at bb
        have V34 := Lib.hid ((V3.out.below hb4).below bb)
        have D34 := Lib.hid ((D3.out.below hb4).below bb)
        have D4 := Lib.hid (hda.below bb)
        have I4 := Lib.hid hdi
        have B4 := Lib.hid (bthen B3.out (bthen hb4 bb))
        clear hda hdi bb hb4
        go_wp2_with (first | (refine alloc_cl rfl _ rfl rfl ?_) | (refine store_cl rfl _ rfl _ _ rfl w4.heap.size rfl C q4 rfl cl0 p30 Z4 ?_; rw [HW4.out]) | (refine load_cl_g rfl _ rfl _ rfl w3.heap.size rfl C q3 V34 ?_) | (refine load_cl_g rfl _ rfl _ rfl w4.heap.size rfl C q4 V4 ?_) | fail)
        refine (requal_any C C q3 q4 _ D34.out D4.out HSM.out HSM.out).mono ?_
        rintro e w5 ⟨rfl, hb5⟩
        rw [HQ.out]
        have BL := Lib.hid (bthen B4.out hb5)
        clear hb5
        go_wp2_with fail
        refine (example26_any _ (hd.below BL.out) (hp.below BL.out) (hk.below BL.out) (hE.below BL.out)).mono ?_
        rintro e wz ⟨rfl, hbz⟩
        have BZ := Lib.hid (bthen BL.out hbz)
        clear hbz
        go_wp2_with fail
        go_ret
        exact ⟨rfl, BZ.out⟩
  · have t1 : decide ((6000 : Int) < (s.size : Int)) = true := decide_eq_true (by omega)
    clear hs
    go_enter Tryz.func7, Tryz.ntmps7
    have BL := B0
    go_wp2_with fail
    refine (example26_any _ (hd.below BL.out) (hp.below BL.out) (hk.below BL.out) (hE.below BL.out)).mono ?_
    rintro e wz ⟨rfl, hbz⟩
    have BZ := Lib.hid (bthen BL.out hbz)
    clear hbz
    go_wp2_with fail
    go_ret
    exact ⟨rfl, BZ.out⟩

set_option maxRecDepth 100000 in
/-- What the walk gives, for every argument and every world that holds the listed variables. -/
theorem contract (H : Type) (enc : TypeId × Value → H) (W : World) (base : Nat) (args : Array Value) (ds gs : List (DataW H)) (before : List MemPlace)
    (hval : ∀ (j : Nat) t v, Tryz.f7.params[j]? = some t → args[j]? = some v → Value.okWide Tryz.prog W .any base t v)
    (hW : DataW.Whole enc Tryz.prog Tryz.f7.params.toList Rows.tokenSplitsSpec.vars false W args.toList ds gs before) (hL : laidMetH Tryz.prog Rows.tokenSplitsRow.laid W) :
    Calls Tryz.prog 7 args W fun e W' => ∃ v, e = .returned v ∧ Rows.tokenSplitsSpec.post enc Tryz.prog Tryz.f7 false true false false W args v W' := by
  have hW' := hW
  obtain ⟨p, q, hA0, hV, rfl, hfz, hnd⟩ := hW
  obtain ⟨rfl, rfl⟩ := trodVars_none hV
  have hA1 : DataW.TrodAll enc Tryz.prog W 0 (fun _ => true) true Tryz.f7.params.toList args.toList ds (p ++ []) := by rw [List.append_nil]; exact hA0
  have hA : DataW.TrodAll enc Tryz.prog W 0 (fun _ => true) true Tryz.f7.params.toList args.toList ds p := hA0
  rw [Tryz.params7] at hA hval
  obtain ⟨v0, vs0, d0, ds0, p0, q0, hargs, rfl, rfl, h0, r0⟩ := trodAll_cons hA
  obtain ⟨rfl, rfl, rfl⟩ := trodAll_nil r0
  obtain rfl : args = #[v0] := by cases args; simp_all
  obtain ⟨s0, rfl, rfl, rfl, hs0⟩ := open_string Tryz.underlying9 (hval 0 9 v0 rfl rfl) h0
  have hs0 : s0.size ≤ 9223372036854775807 := by unfold maxLen at hs0; exact hs0
  obtain ⟨hk, hp, hE, hd⟩ := laid_tabs hL
  refine (walk s0 W hd hp hk hE).mono fun e W' ⟨he, hb⟩ => ?_
  subst he
  exact ⟨_, rfl, law_post laidOut (by kernel_rfl) (by kernel_rfl) Tryz.underlying4 hW' rfl rfl hA1 hb⟩

set_option maxRecDepth 100000 in
theorem reads (w : World) {H : Type} (enc : TypeId × Value → H) : ∃ places, DataW.whole enc Tryz.prog w Tryz.f7.params.toList Rows.tokenSplitsSpec.vars false #[Value.string ByteArray.empty].toList 8 = some ([.lit (.string [])], [], places) :=
  ⟨[], by kernel_rfl⟩
theorem args_ok (w : World) : Input.okWideB Tryz.prog w 7 ⟨#[], #[.string ByteArray.empty], []⟩ = true := by kernel_rfl
set_option maxRecDepth 100000 in
theorem lifted (os : Os) (started : os.Started) (H : Type) (enc : TypeId × Value → H) (F : Stop.Interp) :
    ReturnsInHanded {} Tryz.checked os 7 .any ((OpenSpec.ofChange Rows.tokenSplitsSpec).preRow enc Tryz.prog Tryz.f7 Rows.tokenSplitsRow.domain false Rows.tokenSplitsRow.laid) (((OpenSpec.ofChange Rows.tokenSplitsSpec).at F).post enc Tryz.prog Tryz.f7 false true false false) := by
  obtain ⟨places, hx⟩ := reads _ enc
  refine returnsInHanded_of_row (C := Tryz.checked) (s := OpenSpec.ofChange Rows.tokenSplitsSpec) own started (by kernel_rfl) Tryz.func7
    (witness_row_at (enc := enc) (C := Tryz.checked) false (World.laidAll Tryz.prog os laidList) #[.string ByteArray.empty] (World.laidAll_os _ _ _) (w_hv os _) (w_hr os _) (args_ok _)
      (OpenSpec.preRow_of_cond 8 hx (by kernel_rfl) (fun k hk => by cases hk) (by kernel_rfl) (w_laid os _))) ?_
  intro W base args ds gs before hval hW _ _ _ hL _ _
  exact contract H enc W base args ds gs before hval hW hL

theorem said : Rows.TokenSplitsSaid :=
  OpenClaim.holds_of_cond 7 Tryz.f7 rfl rfl rfl rfl rfl rfl rfl ⟨rfl, rfl, rfl, rfl, rfl⟩ rfl rfl rfl rfl rfl (by kernel_rfl) Tryz.func7 (by kernel_rfl)
    (of_decide_eq_true (by kernel_rfl)) (by unfold Func.isWrapper; first | (rw [if_pos (by decide +kernel)]; kernel_rfl) | (rw [if_neg (by decide +kernel)]; exact ⟨rfl, rfl⟩))
    (fun os started H enc _ F => by rw [OpenClaim.pre_eq_preRow]; exact lifted os started H enc F)

theorem plain (f : FuncId) (fn : Func) (hf : Tryz.pinned.checked.prog.funcNamed Rows.tokenSplitsRow.func = some f) (hfn : Tryz.pinned.checked.prog.funcs[f]? = some fn) :
    true = Tryz.pinned.checked.prog.looks [] ∧ ∀ (j : Nat) t, fn.params[j]? = some t → Tryz.pinned.checked.prog.wantsStandIn t = false := by
  obtain rfl : f = 7 := Option.some.inj ((show Tryz.prog.funcNamed Rows.tokenSplitsRow.func = some 7 by kernel_rfl).symm.trans hf) |>.symm
  obtain rfl : fn = Tryz.f7 := (Option.some.inj (Tryz.func7.symm.trans hfn)).symm
  refine ⟨by kernel_rfl, fun j t ht => ?_⟩
  rw [Tryz.params7] at ht
  have hm : t ∈ [9] := by simpa using Array.mem_of_getElem? ht
  have hall : ([9].all fun u => !Tryz.prog.wantsStandIn u) = true := by kernel_rfl
  exact (show Tryz.prog.wantsStandIn t = false by simpa using List.all_eq_true.1 hall t hm)

theorem card : Rows.TokenSplitsCardSaid :=
  Claim7.holds_tied_plain_at .later [] _ _ _ _ said (fun _ h => by cases h) (by kernel_rfl) (fun _ h => by cases h) tokenSplits_row_tie rfl ⟨rfl, rfl⟩ (by kernel_rfl) rfl plain (by kernel_rfl)
end Go.Proofs.YtiiioefjdebggaaGreatDoor.tokenSplits
