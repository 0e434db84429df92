/- TokenSigns: for every ring of keys, all claims and every instant the law answers true and leaves its arguments alone; no condition. -/
import Derived.Lay
import Derived.Test.YtiiioefjdebggaaGreatDoorCards
import Derived.Test.YtiiioefjdebggaaGreatDoorTie
import Derived.Test.YtiiioefjdebggaaGreatDoorSeg5
import Derived.Test.YtiiioefjdebggaaGreatDoorSeg16
import Derived.Test.YtiiioefjdebggaaGreatDoorSeg13
import Derived.Test.YtiiioefjdebggaaGreatDoorSeg15
import Derived.Test.YtiiioefjdebggaaGreatDoorSeg17
namespace Go.Proofs.YtiiioefjdebggaaGreatDoor.tokenSigns
open Go.ChangeShapes Go.WideShapes Go.ChangeAt Go.RowKit
open Go.ChangeMaps (open_string)


set_option linter.unusedSimpArgs false in
set_option maxHeartbeats 8000000 in
set_option maxRecDepth 100000 in
theorem walk (l : List Ky) (A : Option Addr) (cc : Nat) (c : Cl) (p : P3) (t : Int) (w : World) (hd : DigOk w) (hp : PowOk w) (hk : KeysOk w) (hE : ErrsOk w) (hS : KysAt w A l) (hlc : l.length ≤ cc) (hl : l.length ≤ 9223372036854775807) (hin : ∀ x ∈ l, KyIn x) (hc : ClAt w c p) (ic : ClIn c p) :
    Calls Tryz.prog 3 #[.slice A l.length cc, clV c p, .int .i64 t] w fun e w' => e = .returned (.bool true) ∧ Below w.heap.size w w' := by
  have B1 : Hid (Below w.heap.size w (w.alloc (clO c p))) := Lib.hid ((Below.refl _ _).alloc (Nat.le_refl _) _)
  have X1 : Hid (ClBox (w.alloc (clO c p)) w.heap.size c p) := Lib.hid (ClBox.new w c p)
  have HS := Lib.hid hS
  have HC := Lib.hid hc
  have IC := Lib.hid ic
  have HI := Lib.hid hin
  obtain ⟨E, HE⟩ : ∃ E, Hid (signE l c t = E) := ⟨_, Lib.hid rfl⟩
  obtain ⟨V, HV⟩ : ∃ E, Hid (signV l c t = E) := ⟨_, Lib.hid rfl⟩
  have een : (E == E) = true := by simp
  have vvn : (V.toList == V.toList) = true := by simp
  clear hS hc ic hin
  go_enter Tryz.func3, Tryz.ntmps3
  go_upto_region 1 with (first | (refine box_cl rfl _ rfl _ rfl c p rfl ?_) | fail)
  go_wp2_with fail
  refine (few26_any l A cc _ (HS.out.below B1.out) hl).mono ?_
  rintro e w2 ⟨⟨b, rfl, _⟩, hb2⟩
  have B2 := Lib.hid (bthen B1.out hb2)
  have X2 := Lib.hid (X1.out.below hb2)
  clear hb2
  cases b with
  | false =>
    have BL := B2
    go_wp2_with fail
    refine (example26_any _ (hd.below BL.out) (hp.below BL.out) (hk.below BL.out) (hE.below BL.out)).mono ?_
    rintro e wz ⟨rfl, hbz⟩
    have BZ := Lib.hid (bthen BL.out hbz)
    clear hbz
    go_wp2_with fail
    go_ret
    exact ⟨rfl, BZ.out⟩
  | true =>
    go_wp2_with (first | (refine load_cl_g rfl _ rfl _ rfl w.heap.size rfl c p X2 ?_) | fail)
    refine (short26_any c p _ (HC.out.below B2.out) IC.out).mono ?_
    rintro e w3 ⟨⟨b, rfl, _⟩, hb3⟩
    have B3 := Lib.hid (bthen B2.out hb3)
    have X3 := Lib.hid (X2.out.below hb3)
    clear hb3
    cases b with
    | false =>
      have BL := B3
      go_wp2_with fail
      refine (example26_any _ (hd.below BL.out) (hp.below BL.out) (hk.below BL.out) (hE.below BL.out)).mono ?_
      rintro e wz ⟨rfl, hbz⟩
      have BZ := Lib.hid (bthen BL.out hbz)
      clear hbz
      go_wp2_with fail
      go_ret
      exact ⟨rfl, BZ.out⟩
    | true =>
      go_wp2_with (first | (refine load_cl_g rfl _ rfl _ rfl w.heap.size rfl c p X3 ?_) | fail)
      refine (sign26_any l A cc c p t _ (hd.below B3.out) (hp.below B3.out) (hk.below B3.out) (HS.out.below B3.out) hlc hl HI.out (HC.out.below B3.out) IC.out).mono ?_
      rintro e w4 ⟨rfl, hb4⟩
      rw [HE.out, HV.out]
      have B4 := Lib.hid (bthen B3.out hb4)
      have X4 := Lib.hid (X3.out.below hb4)
      clear hb4
      go_wp2_with (first | (refine load_cl_g rfl _ rfl _ rfl w.heap.size rfl c p X4 ?_) | fail)
      refine (rsign26_any l A cc c p t _ (hd.below B4.out) (hp.below B4.out) (hk.below B4.out) (HS.out.below B4.out) hl HI.out (HC.out.below B4.out) IC.out).mono ?_
      rintro e w5 ⟨rfl, hb5⟩
      rw [HE.out, HV.out]
      have B5 := Lib.hid (bthen B4.out hb5)
      clear hb5
      have BL := B5
      go_wp2_with fail
      refine (example26_any _ (hd.below BL.out) (hp.below BL.out) (hk.below BL.out) (hE.below BL.out)).mono ?_
      rintro e wz ⟨rfl, hbz⟩
      have BZ := Lib.hid (bthen BL.out hbz)
      clear hbz
      go_wp2_with fail
      go_ret
      exact ⟨rfl, BZ.out⟩

set_option maxRecDepth 100000 in
/-- What the walk gives, for every argument and every world that holds the listed variables. -/
theorem contract (H : Type) (enc : TypeId × Value → H) (W : World) (base : Nat) (args : Array Value) (ds gs : List (DataW H)) (before : List MemPlace)
    (hval : ∀ (j : Nat) t v, Tryz.f3.params[j]? = some t → args[j]? = some v → Value.okWide Tryz.prog W .any base t v)
    (hW : DataW.Whole enc Tryz.prog Tryz.f3.params.toList Rows.tokenSignsSpec.vars false W args.toList ds gs before) (hL : laidMetH Tryz.prog Rows.tokenSignsRow.laid W) :
    Calls Tryz.prog 3 args W fun e W' => ∃ v, e = .returned v ∧ Rows.tokenSignsSpec.post enc Tryz.prog Tryz.f3 false true false false W args v W' := by
  have hW' := hW
  obtain ⟨p, q, hA0, hV, rfl, hfz, hnd⟩ := hW
  obtain ⟨rfl, rfl⟩ := trodVars_none hV
  have hA1 : DataW.TrodAll enc Tryz.prog W 0 (fun _ => true) true Tryz.f3.params.toList args.toList ds (p ++ []) := by rw [List.append_nil]; exact hA0
  have hA : DataW.TrodAll enc Tryz.prog W 0 (fun _ => true) true Tryz.f3.params.toList args.toList ds p := hA0
  rw [Tryz.params3] at hA hval
  obtain ⟨v0, vs0, d0, ds0, p0, q0, hargs, rfl, rfl, h0, r0⟩ := trodAll_cons hA
  obtain ⟨v1, vs1, d1, ds1, p1, q1, rfl, rfl, rfl, h1, r1⟩ := trodAll_cons r0
  obtain ⟨v2, vs2, d2, ds2, p2, q2, rfl, rfl, rfl, h2, r2⟩ := trodAll_cons r1
  obtain ⟨rfl, rfl, rfl⟩ := trodAll_nil r2
  obtain rfl : args = #[v0, v1, v2] := by cases args; simp_all
  obtain ⟨A0, l0, n0, rfl, S0, u0, m0, in0⟩ := open_kys (hval 0 22 v0 rfl rfl) h0
  obtain ⟨x1, q1, rfl, at1, in1⟩ := open_cl (hval 1 25 v1 rfl rfl) h1
  obtain ⟨n2, rfl, rfl, rfl, wn2⟩ := open_int Tryz.underlying3 (hval 2 3 v2 rfl rfl) h2
  obtain ⟨_, _⟩ := bounds_i64 wn2
  obtain ⟨hk, hp, hE, hd⟩ := laid_tabs hL
  refine (walk l0 A0 n0 x1 q1 n2 W hd hp hk hE S0 u0 m0 in0 at1 in1).mono fun e W' ⟨he, hb⟩ => ?_
  subst he
  exact ⟨_, rfl, law_post laidOut (by kernel_rfl) (by kernel_rfl) Tryz.underlying4 hW' rfl rfl hA1 hb⟩

set_option maxRecDepth 100000 in
theorem reads (w : World) {H : Type} (enc : TypeId × Value → H) : ∃ places, DataW.whole enc Tryz.prog w Tryz.f3.params.toList Rows.tokenSignsSpec.vars false #[Value.slice none 0 0, .agg #[.string ByteArray.empty, .string ByteArray.empty, .string ByteArray.empty, .string ByteArray.empty, .string ByteArray.empty, .string ByteArray.empty, .string ByteArray.empty, .string ByteArray.empty, .slice none 0 0, .slice none 0 0, .slice none 0 0, .int .i64 0, .int .i64 0, .int .i64 0, .int .i64 0, .int .i64 0], .int .i64 0].toList 8 = some ([.nil, .agg [.lit (.string []), .lit (.string []), .lit (.string []), .lit (.string []), .lit (.string []), .lit (.string []), .lit (.string []), .lit (.string []), .nil, .nil, .nil, .lit (.int .i64 0), .lit (.int .i64 0), .lit (.int .i64 0), .lit (.int .i64 0), .lit (.int .i64 0)], .lit (.int .i64 0)], [], places) :=
  ⟨[], by kernel_rfl⟩
theorem args_ok (w : World) : Input.okWideB Tryz.prog w 3 ⟨#[], #[.slice none 0 0, .agg #[.string ByteArray.empty, .string ByteArray.empty, .string ByteArray.empty, .string ByteArray.empty, .string ByteArray.empty, .string ByteArray.empty, .string ByteArray.empty, .string ByteArray.empty, .slice none 0 0, .slice none 0 0, .slice none 0 0, .int .i64 0, .int .i64 0, .int .i64 0, .int .i64 0, .int .i64 0], .int .i64 0], []⟩ = true := by kernel_rfl
set_option maxRecDepth 100000 in
theorem lifted (os : Os) (started : os.Started) (H : Type) (enc : TypeId × Value → H) (F : Stop.Interp) :
    ReturnsInHanded {} Tryz.checked os 3 .any ((OpenSpec.ofChange Rows.tokenSignsSpec).preRow enc Tryz.prog Tryz.f3 Rows.tokenSignsRow.domain false Rows.tokenSignsRow.laid) (((OpenSpec.ofChange Rows.tokenSignsSpec).at F).post enc Tryz.prog Tryz.f3 false true false false) := by
  obtain ⟨places, hx⟩ := reads _ enc
  refine returnsInHanded_of_row (C := Tryz.checked) (s := OpenSpec.ofChange Rows.tokenSignsSpec) own started (by kernel_rfl) Tryz.func3
    (witness_row_at (enc := enc) (C := Tryz.checked) false (World.laidAll Tryz.prog os laidList) #[.slice none 0 0, .agg #[.string ByteArray.empty, .string ByteArray.empty, .string ByteArray.empty, .string ByteArray.empty, .string ByteArray.empty, .string ByteArray.empty, .string ByteArray.empty, .string ByteArray.empty, .slice none 0 0, .slice none 0 0, .slice none 0 0, .int .i64 0, .int .i64 0, .int .i64 0, .int .i64 0, .int .i64 0], .int .i64 0] (World.laidAll_os _ _ _) (w_hv os _) (w_hr os _) (args_ok _)
      (OpenSpec.preRow_of_cond 8 hx (by kernel_rfl) (fun k hk => by cases hk) (by kernel_rfl) (w_laid os _))) ?_
  intro W base args ds gs before hval hW _ _ _ hL _ _
  exact contract H enc W base args ds gs before hval hW hL

theorem said : Rows.TokenSignsSaid :=
  OpenClaim.holds_of_cond 3 Tryz.f3 rfl rfl rfl rfl rfl rfl rfl ⟨rfl, rfl, rfl, rfl, rfl⟩ rfl rfl rfl rfl rfl (by kernel_rfl) Tryz.func3 (by kernel_rfl)
    (of_decide_eq_true (by kernel_rfl)) (by unfold Func.isWrapper; first | (rw [if_pos (by decide +kernel)]; kernel_rfl) | (rw [if_neg (by decide +kernel)]; exact ⟨rfl, rfl⟩))
    (fun os started H enc _ F => by rw [OpenClaim.pre_eq_preRow]; exact lifted os started H enc F)

theorem plain (f : FuncId) (fn : Func) (hf : Tryz.pinned.checked.prog.funcNamed Rows.tokenSignsRow.func = some f) (hfn : Tryz.pinned.checked.prog.funcs[f]? = some fn) :
    true = Tryz.pinned.checked.prog.looks [] ∧ ∀ (j : Nat) t, fn.params[j]? = some t → Tryz.pinned.checked.prog.wantsStandIn t = false := by
  obtain rfl : f = 3 := Option.some.inj ((show Tryz.prog.funcNamed Rows.tokenSignsRow.func = some 3 by kernel_rfl).symm.trans hf) |>.symm
  obtain rfl : fn = Tryz.f3 := (Option.some.inj (Tryz.func3.symm.trans hfn)).symm
  refine ⟨by kernel_rfl, fun j t ht => ?_⟩
  rw [Tryz.params3] at ht
  have hm : t ∈ [22, 25, 3] := by simpa using Array.mem_of_getElem? ht
  have hall : ([22, 25, 3].all fun u => !Tryz.prog.wantsStandIn u) = true := by kernel_rfl
  exact (show Tryz.prog.wantsStandIn t = false by simpa using List.all_eq_true.1 hall t hm)

theorem card : Rows.TokenSignsCardSaid :=
  Claim7.holds_tied_plain_at .later [] _ _ _ _ said (fun _ h => by cases h) (by kernel_rfl) (fun _ h => by cases h) tokenSigns_row_tie rfl ⟨rfl, rfl⟩ (by kernel_rfl) rfl plain (by kernel_rfl)
end Go.Proofs.YtiiioefjdebggaaGreatDoor.tokenSigns
