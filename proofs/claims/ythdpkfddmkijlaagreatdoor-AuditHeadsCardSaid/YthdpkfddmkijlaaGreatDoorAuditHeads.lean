/- AuditHeads: for every list of events and of heads the law answers true and leaves its arguments alone; no condition. -/
import Derived.Lay
import Derived.Test.YthdpkfddmkijlaaGreatDoorCards
import Derived.Test.YthdpkfddmkijlaaGreatDoorTie
import Derived.Test.YthdpkfddmkijlaaGreatDoorSeg10
import Derived.Test.YthdpkfddmkijlaaGreatDoorSeg9
import Derived.Test.YthdpkfddmkijlaaGreatDoorSeg5
import Derived.Test.YthdpkfddmkijlaaGreatDoorSeg1
namespace Go.Proofs.YthdpkfddmkijlaaGreatDoor.auditHeads
open Go.ChangeShapes Go.WideShapes Go.ChangeAt Go.RowKit
open Go.ChangeMaps (open_string)


theorem headsS_len (l : List Ev) : (headsS l).length ≤ l.length := by
  rw [headsS]; split
  · rw [heads_len]; exact Nat.le_refl _
  · simp
set_option maxHeartbeats 8000000 in
set_option maxRecDepth 100000 in
theorem walk (l : List Ev) (A : Option Addr) (c : Nat) (hs : List ByteArray) (B : Option Addr) (c9 : Nat) (w : World) (hd : DigOk w) (hp : PowOk w) (hE : ErrsOk w) (hS : EvsAt w A l) (hin : ∀ x ∈ l, EvIn x) (hl : l.length ≤ 9223372036854775807) (hT : Strs w B hs) (hl2 : hs.length ≤ 9223372036854775807) :
    Calls Tryz.prog 4 #[.slice A l.length c, .slice B hs.length c9] w fun e w' => e = .returned (.bool true) ∧ Below w.heap.size w w' := by
  have HS := Lib.hid hS
  have HT := Lib.hid hT
  have HIN := Lib.hid hin
  have B0 := Lib.hid (Below.refl w.heap.size w)
  clear hS hT hin
  have HLI := Lib.hid (light_any l A c w HS.out hl)
  have HFI := Lib.hid (few_any hs B c9 w HT.out hl2)
  by_cases hli : lightB l = true
  · have HL := Lib.hid hli
    have hl16 := (lightB_facts hli).1
    clear hli
    by_cases hfi : fewB hs = true
    · have HF := Lib.hid hfi
      clear hfi
      go_enter Tryz.func4, Tryz.ntmps4
      go_wp2_with fail
      refine (Calls.mono HLI.out ?_)
      rintro e wsame ⟨rfl, rfl⟩
      rw [HL.out]
      go_wp2_with fail
      refine (Calls.mono HFI.out ?_)
      rintro e wsame ⟨rfl, rfl⟩
      rw [HF.out]
      clear HLI HFI
      go_wp2_with fail
      refine (heads_any l A c _ (hd.below B0.out) (hp.below B0.out) HS.out HIN.out (by omega)).mono ?_
      rintro e w1 ⟨hr1, hb1⟩
      obtain ⟨A1, c1, rfl, hs1, _, _⟩ := hr1
      have HS1 := Lib.hid hs1
      have HEV1 := Lib.hid (HS.out.below hb1)
      clear hs1
      have B1 := Lib.hid (bthen B0.out hb1)
      have G1 := Lib.hid hb1
      clear hb1
      obtain ⟨HH, HHE⟩ : ∃ HH, Hid (headsS l = HH) := ⟨_, Lib.hid rfl⟩
      obtain ⟨E, HEE⟩ : ∃ E, Hid (firstE l = E) := ⟨_, Lib.hid rfl⟩
      have HLEN : Hid ((headsS l).length ≤ 16) := Lib.hid (Nat.le_trans (headsS_len l) (by omega))
      rw [HHE.out] at HS1 HLEN
      rw [HHE.out, HEE.out]
      go_wp2_with fail
      refine (rheads_any l A c _ HEV1.out HIN.out (by omega)).mono ?_
      rintro e w2 ⟨hr2, hb2⟩
      rw [HHE.out, HEE.out] at hr2
      obtain ⟨A2, c2, rfl, hs2, _, _⟩ := hr2
      have HS2 := Lib.hid hs2
      have HSA := Lib.hid (HS1.out.below hb2)
      have HEV2 := Lib.hid (HEV1.out.below hb2)
      clear hs2
      have B2 := Lib.hid (bthen B1.out hb2)
      have G2 := Lib.hid hb2
      clear hb2
      go_wp2_with fail
      refine (same_any HH HH A1 A2 c1 c2 _ HSA.out HS2.out (by have := HLEN.out; omega) (by have := HLEN.out; omega)).mono ?_
      rintro e w3 ⟨rfl, hb3⟩
      rw [decide_eq_true rfl]
      have B3 := Lib.hid (bthen B2.out hb3)
      have G3 := Lib.hid hb3
      clear hb3
      have HEV3 := Lib.hid (HEV2.out.below G3.out)
      obtain ⟨V, HV⟩ : ∃ V, Hid (verS l hs = V) := ⟨_, Lib.hid rfl⟩
      go_wp2_with fail
      refine (verify_any l A c hs B c9 _ (hd.below B3.out) (hp.below B3.out) HEV3.out HIN.out (HT.out.below B3.out) (by omega)).mono ?_
      rintro e w4 ⟨rfl, hb4⟩
      rw [HV.out]
      have B4 := Lib.hid (bthen B3.out hb4)
      have G4 := Lib.hid hb4
      clear hb4
      have HEV4 := Lib.hid (HEV3.out.below G4.out)
      go_wp2_with fail
      refine (rverify_any l A c hs B c9 _ HEV4.out HIN.out (HT.out.below B4.out) (by omega)).mono ?_
      rintro e w5 ⟨rfl, hb5⟩
      rw [HV.out]
      have B5 := Lib.hid (bthen B4.out hb5)
      have G5 := Lib.hid hb5
      clear hb5
      go_wp2_with fail
      refine (awake_any _ (hd.below B5.out) (hp.below B5.out) (hE.below B5.out)).mono ?_
      rintro e w6 ⟨rfl, hb6⟩
      have B6 := Lib.hid (bthen B5.out hb6)
      have G6 := Lib.hid hb6
      clear hb6
      go_wp2_with fail
      go_ret
      exact ⟨rfl, B6.out⟩
    · have HF : Hid (fewB hs = false) := Lib.hid (by simpa using hfi)
      clear hfi
      go_enter Tryz.func4, Tryz.ntmps4
      go_wp2_with fail
      refine (Calls.mono HLI.out ?_)
      rintro e wsame ⟨rfl, rfl⟩
      rw [HL.out]
      go_wp2_with fail
      refine (Calls.mono HFI.out ?_)
      rintro e wsame ⟨rfl, rfl⟩
      rw [HF.out]
      go_wp2_with fail
      refine (awake_any _ (hd.below B0.out) (hp.below B0.out) (hE.below B0.out)).mono ?_
      rintro e w1 ⟨rfl, hb1⟩
      have B1 := Lib.hid (bthen B0.out hb1)
      have G1 := Lib.hid hb1
      clear hb1
      go_wp2_with fail
      go_ret
      exact ⟨rfl, B1.out⟩
  · have HL : Hid (lightB l = false) := Lib.hid (by simpa using hli)
    clear hli
    go_enter Tryz.func4, Tryz.ntmps4
    go_wp2_with fail
    refine (Calls.mono HLI.out ?_)
    rintro e wsame ⟨rfl, rfl⟩
    rw [HL.out]
    go_wp2_with fail
    refine (awake_any _ (hd.below B0.out) (hp.below B0.out) (hE.below B0.out)).mono ?_
    rintro e w1 ⟨rfl, hb1⟩
    have B1 := Lib.hid (bthen B0.out hb1)
    have G1 := Lib.hid hb1
    clear hb1
    go_wp2_with fail
    go_ret
    exact ⟨rfl, B1.out⟩

set_option maxRecDepth 100000 in
/-- What the walk gives, for every argument and every world that holds the listed variables. -/
theorem contract (H : Type) (enc : TypeId × Value → H) (W : World) (base : Nat) (args : Array Value) (ds gs : List (DataW H)) (before : List MemPlace)
    (hval : ∀ (j : Nat) t v, Tryz.f4.params[j]? = some t → args[j]? = some v → Value.okWide Tryz.prog W .any base t v)
    (hW : DataW.Whole enc Tryz.prog Tryz.f4.params.toList Rows.auditHeadsSpec.vars false W args.toList ds gs before) (hL : laidMetH Tryz.prog Rows.auditHeadsRow.laid W) :
    Calls Tryz.prog 4 args W fun e W' => ∃ v, e = .returned v ∧ Rows.auditHeadsSpec.post enc Tryz.prog Tryz.f4 false true false false W args v W' := by
  have hW' := hW
  obtain ⟨p, q, hA0, hV, rfl, hfz, hnd⟩ := hW
  obtain ⟨rfl, rfl⟩ := trodVars_none hV
  have hA1 : DataW.TrodAll enc Tryz.prog W 0 (fun _ => true) true Tryz.f4.params.toList args.toList ds (p ++ []) := by rw [List.append_nil]; exact hA0
  have hA : DataW.TrodAll enc Tryz.prog W 0 (fun _ => true) true Tryz.f4.params.toList args.toList ds p := hA0
  rw [Tryz.params4] at hA hval
  obtain ⟨v0, vs0, d0, ds0, p0, q0, hargs, rfl, rfl, h0, r0⟩ := trodAll_cons hA
  obtain ⟨v1, vs1, d1, ds1, p1, q1, rfl, rfl, rfl, h1, r1⟩ := trodAll_cons r0
  obtain ⟨rfl, rfl, rfl⟩ := trodAll_nil r1
  obtain rfl : args = #[v0, v1] := by cases args; simp_all
  obtain ⟨A0, l0, c0, rfl, hS0, _, hl0, hin0⟩ := open_evs Tryz.underlying26 Tryz.underlying24 (by kernel_rfl) ⟨rfl, rfl, rfl, rfl, rfl, rfl⟩ Tryz.underlying3 Tryz.underlying9 Tryz.underlying9 Tryz.underlying9 Tryz.underlying9 Tryz.underlying22 ⟨by kernel_rfl, by kernel_rfl, by kernel_rfl, by kernel_rfl, by kernel_rfl, by kernel_rfl⟩ (hval 0 26 v0 rfl rfl) h0
  obtain ⟨A1, l1, c1, rfl, hS1, _, hl1, _⟩ := open_strl Tryz.underlying33 Tryz.underlying9 (by kernel_rfl) (hval 1 33 v1 rfl rfl) h1
  obtain ⟨hd, hp, hE⟩ := laid_tabs hL
  refine (walk l0 A0 c0 l1 A1 c1 W hd hp hE hS0 hin0 hl0 hS1 hl1).mono fun e W' ⟨he, hb⟩ => ?_
  subst he
  exact ⟨_, rfl, law_post laidOut (by kernel_rfl) (by kernel_rfl) Tryz.underlying4 hW' rfl rfl hA1 hb⟩

set_option maxRecDepth 100000 in
theorem reads (w : World) {H : Type} (enc : TypeId × Value → H) : ∃ places, DataW.whole enc Tryz.prog w Tryz.f4.params.toList Rows.auditHeadsSpec.vars false #[Value.slice none 0 0, .slice none 0 0].toList 8 = some ([.nil, .nil], [], places) :=
  ⟨[], by kernel_rfl⟩
theorem args_ok (w : World) : Input.okWideB Tryz.prog w 4 ⟨#[], #[.slice none 0 0, .slice none 0 0], []⟩ = true := by kernel_rfl
set_option maxRecDepth 100000 in
theorem lifted (os : Os) (started : os.Started) (H : Type) (enc : TypeId × Value → H) (F : Stop.Interp) :
    ReturnsInHanded {} Tryz.checked os 4 .any ((OpenSpec.ofChange Rows.auditHeadsSpec).preRow enc Tryz.prog Tryz.f4 Rows.auditHeadsRow.domain false Rows.auditHeadsRow.laid) (((OpenSpec.ofChange Rows.auditHeadsSpec).at F).post enc Tryz.prog Tryz.f4 false true false false) := by
  obtain ⟨places, hx⟩ := reads _ enc
  refine returnsInHanded_of_row (C := Tryz.checked) (s := OpenSpec.ofChange Rows.auditHeadsSpec) own started (by kernel_rfl) Tryz.func4
    (witness_row_at (enc := enc) (C := Tryz.checked) false (World.laidAll Tryz.prog os laidList) #[.slice none 0 0, .slice none 0 0] (World.laidAll_os _ _ _) (w_hv os _) (w_hr os _) (args_ok _)
      (OpenSpec.preRow_of_cond 8 hx (by kernel_rfl) (fun k hk => by cases hk) (by kernel_rfl) (w_laid os _))) ?_
  intro W base args ds gs before hval hW _ _ _ hL _ _
  exact contract H enc W base args ds gs before hval hW hL

theorem said : Rows.AuditHeadsSaid :=
  OpenClaim.holds_of_cond 4 Tryz.f4 rfl rfl rfl rfl rfl rfl rfl ⟨rfl, rfl, rfl, rfl, rfl⟩ rfl rfl rfl rfl rfl (by kernel_rfl) Tryz.func4 (by kernel_rfl)
    (of_decide_eq_true (by kernel_rfl)) (by unfold Func.isWrapper; first | (rw [if_pos (by decide +kernel)]; kernel_rfl) | (rw [if_neg (by decide +kernel)]; exact ⟨rfl, rfl⟩))
    (fun os started H enc _ F => by rw [OpenClaim.pre_eq_preRow]; exact lifted os started H enc F)

theorem plain (f : FuncId) (fn : Func) (hf : Tryz.pinned.checked.prog.funcNamed Rows.auditHeadsRow.func = some f) (hfn : Tryz.pinned.checked.prog.funcs[f]? = some fn) :
    true = Tryz.pinned.checked.prog.looks [] ∧ ∀ (j : Nat) t, fn.params[j]? = some t → Tryz.pinned.checked.prog.wantsStandIn t = false := by
  obtain rfl : f = 4 := Option.some.inj ((show Tryz.prog.funcNamed Rows.auditHeadsRow.func = some 4 by kernel_rfl).symm.trans hf) |>.symm
  obtain rfl : fn = Tryz.f4 := (Option.some.inj (Tryz.func4.symm.trans hfn)).symm
  refine ⟨by kernel_rfl, fun j t ht => ?_⟩
  rw [Tryz.params4] at ht
  have hm : t ∈ [26, 33] := by simpa using Array.mem_of_getElem? ht
  have hall : ([26, 33].all fun u => !Tryz.prog.wantsStandIn u) = true := by kernel_rfl
  exact (show Tryz.prog.wantsStandIn t = false by simpa using List.all_eq_true.1 hall t hm)

theorem card : Rows.AuditHeadsCardSaid :=
  Claim7.holds_tied_plain_at .later [] _ _ _ _ said (fun _ h => by cases h) (by kernel_rfl) (fun _ h => by cases h) auditHeads_row_tie rfl ⟨rfl, rfl⟩ (by kernel_rfl) rfl plain (by kernel_rfl)
end Go.Proofs.YthdpkfddmkijlaaGreatDoor.auditHeads
