/- TokenDiffers: for every ring of keys and every two claims the law answers true and leaves its arguments alone; no condition. -/
import Derived.Lay
import Derived.Test.YtiiioefjdebggaaGreatDoorCards
import Derived.Test.YtiiioefjdebggaaGreatDoorTie
import Derived.Test.YtiiioefjdebggaaGreatDoorSeg5
import Derived.Test.YtiiioefjdebggaaGreatDoorSeg16
import Derived.Test.YtiiioefjdebggaaGreatDoorSeg13
import Derived.Test.YtiiioefjdebggaaGreatDoorSeg18
import Derived.Test.YtiiioefjdebggaaGreatDoorSeg17
namespace Go.Proofs.YtiiioefjdebggaaGreatDoor.tokenDiffers
open Go.ChangeShapes Go.WideShapes Go.ChangeAt Go.RowKit
open Go.ChangeMaps (open_string)


set_option linter.unusedSimpArgs false in
set_option maxHeartbeats 8000000 in
set_option maxRecDepth 100000 in
theorem walk (l : List Ky) (A : Option Addr) (cc : Nat) (c d : Cl) (p q : P3) (w : World) (hd : DigOk w) (hp : PowOk w) (hk : KeysOk w) (hE : ErrsOk w) (hS : KysAt w A l) (hlc : l.length ≤ cc) (hl : l.length ≤ 9223372036854775807) (hin : ∀ x ∈ l, KyIn x) (hc : ClAt w c p) (hcd : ClAt w d q) (ic : ClIn c p) (id : ClIn d q) :
    Calls Tryz.prog 10 #[.slice A l.length cc, clV c p, clV d q] w fun e w' => e = .returned (.bool true) ∧ Below w.heap.size w w' := by
  have B1 : Hid (Below w.heap.size w ((w.alloc (clO c p)).alloc (clO d q))) := Lib.hid (((Below.refl _ _).alloc (Nat.le_refl _) _).alloc (by simp) _)
  have X1 : Hid (ClBox ((w.alloc (clO c p)).alloc (clO d q)) w.heap.size c p) := Lib.hid ((ClBox.new w c p).below ((Below.refl _ _).alloc (Nat.le_refl _) _))
  have Y1 : Hid (ClBox ((w.alloc (clO c p)).alloc (clO d q)) (w.heap.size + 1) d q) := Lib.hid (by have h := ClBox.new (w.alloc (clO c p)) d q; simpa using h)
  have hsz : (w.alloc (clO c p)).heap.size = w.heap.size + 1 := by simp
  have HS := Lib.hid hS
  have HC := Lib.hid hc
  have HCD := Lib.hid hcd
  have IC := Lib.hid ic
  have ID := Lib.hid id
  have HI := Lib.hid hin
  have HDI := Lib.hid (@sign_differ l c d 50)
  obtain ⟨E, HE⟩ : ∃ E, Hid (signE l c 50 = E) := ⟨_, Lib.hid rfl⟩
  obtain ⟨V, HV⟩ : ∃ E, Hid (signV l c 50 = E) := ⟨_, Lib.hid rfl⟩
  obtain ⟨G, HG⟩ : ∃ E, Hid (signE l d 50 = E) := ⟨_, Lib.hid rfl⟩
  obtain ⟨U, HU⟩ : ∃ E, Hid (signV l d 50 = E) := ⟨_, Lib.hid rfl⟩
  obtain ⟨Q, HQ⟩ : ∃ E, Hid (eqB c d = E) := ⟨_, Lib.hid rfl⟩
  rw [HE.out, HV.out, HG.out, HU.out] at HDI
  clear hS hc ic hin hcd id
  go_enter Tryz.func10, Tryz.ntmps10
  go_upto_region 1 with (first | (refine box_cl rfl _ rfl _ rfl c p rfl ?_) | (refine box_cl rfl _ rfl _ rfl d q rfl ?_) | fail)
  (try rw [hsz])
  clear hsz
  go_wp2_with (first | (refine load_cl_g rfl _ rfl _ rfl w.heap.size rfl c p X1 ?_) | (refine load_cl_g rfl _ rfl _ rfl (w.heap.size + 1) rfl d q Y1 ?_) | fail)
  refine (sign26_any l A cc c p 50 _ (hd.below B1.out) (hp.below B1.out) (hk.below B1.out) (HS.out.below B1.out) hlc hl HI.out (HC.out.below B1.out) IC.out).mono ?_
  rintro e w2 ⟨rfl, hb2⟩
  rw [HE.out, HV.out]
  have B2 := Lib.hid (bthen B1.out hb2)
  have X2 := Lib.hid (X1.out.below hb2)
  have Y2 := Lib.hid (Y1.out.below hb2)
  clear hb2
  go_wp2_with (first | (refine load_cl_g rfl _ rfl _ rfl w.heap.size rfl c p X2 ?_) | (refine load_cl_g rfl _ rfl _ rfl (w.heap.size + 1) rfl d q Y2 ?_) | fail)
  refine (sign26_any l A cc d q 50 _ (hd.below B2.out) (hp.below B2.out) (hk.below B2.out) (HS.out.below B2.out) hlc hl HI.out (HCD.out.below B2.out) ID.out).mono ?_
  rintro e w3 ⟨rfl, hb3⟩
  rw [HG.out, HU.out]
  have B3 := Lib.hid (bthen B2.out hb3)
  have X3 := Lib.hid (X2.out.below hb3)
  have Y3 := Lib.hid (Y2.out.below hb3)
  clear hb3
  by_cases h1 : E = 0
  · have hEb : (E != 0) = false := by rw [h1]; rfl
    by_cases h2 : G = 0
    · have hGb : (G != 0) = false := by rw [h2]; rfl
      have hQ : (V.toList == U.toList) = Q := by
        rw [← HQ.out]
        have h3 := HDI.out h1 h2
        cases h4 : eqB c d with
        | true => have h5 := h3.2 ((eqB_iff c d).1 h4); rw [h5]; simp
        | false =>
          rw [beq_eq_false_iff_ne]
          intro h5
          have h6 : V = U := ByteArray.ext (Array.toList_inj.1 (by rw [← Lib.toList_data, ← Lib.toList_data]; exact h5))
          rw [(eqB_iff c d).2 (h3.1 h6)] at h4; cases h4
      have qqn : (Q == Q) = true := by simp
      clear h1 h2
      go_wp2_with (first | (refine load_cl_g rfl _ rfl _ rfl w.heap.size rfl c p X3 ?_) | (refine load_cl_g rfl _ rfl _ rfl (w.heap.size + 1) rfl d q Y3 ?_) | fail)
      refine (equal_any c d p q _ IC.out ID.out (HC.out.below B3.out) (HCD.out.below B3.out)).mono ?_
      rintro e w4 ⟨rfl, hb4⟩
      rw [HQ.out]
      have B4 := Lib.hid (bthen B3.out hb4)
      clear hb4
      have BL := B4
      go_wp2_with fail
      refine (example26_any _ (hd.below BL.out) (hp.below BL.out) (hk.below BL.out) (hE.below BL.out)).mono ?_
      rintro e wz ⟨rfl, hbz⟩
      have BZ := Lib.hid (bthen BL.out hbz)
      clear hbz
      go_wp2_with fail
      go_ret
      exact ⟨rfl, BZ.out⟩
    · have hGb : (G != 0) = true := by simpa using h2
      clear h1 h2
      have BL := B3
      go_wp2_with fail
      refine (example26_any _ (hd.below BL.out) (hp.below BL.out) (hk.below BL.out) (hE.below BL.out)).mono ?_
      rintro e wz ⟨rfl, hbz⟩
      have BZ := Lib.hid (bthen BL.out hbz)
      clear hbz
      go_wp2_with fail
      go_ret
      exact ⟨rfl, BZ.out⟩
  · have hEb : (E != 0) = true := by simpa using h1
    clear h1
    have BL := B3
    go_wp2_with fail
    refine (example26_any _ (hd.below BL.out) (hp.below BL.out) (hk.below BL.out) (hE.below BL.out)).mono ?_
    rintro e wz ⟨rfl, hbz⟩
    have BZ := Lib.hid (bthen BL.out hbz)
    clear hbz
    go_wp2_with fail
    go_ret
    exact ⟨rfl, BZ.out⟩

set_option maxRecDepth 100000 in
/-- What the walk gives, for every argument and every world that holds the listed variables. -/
theorem contract (H : Type) (enc : TypeId × Value → H) (W : World) (base : Nat) (args : Array Value) (ds gs : List (DataW H)) (before : List MemPlace)
    (hval : ∀ (j : Nat) t v, Tryz.f10.params[j]? = some t → args[j]? = some v → Value.okWide Tryz.prog W .any base t v)
    (hW : DataW.Whole enc Tryz.prog Tryz.f10.params.toList Rows.tokenDiffersSpec.vars false W args.toList ds gs before) (hL : laidMetH Tryz.prog Rows.tokenDiffersRow.laid W) :
    Calls Tryz.prog 10 args W fun e W' => ∃ v, e = .returned v ∧ Rows.tokenDiffersSpec.post enc Tryz.prog Tryz.f10 false true false false W args v W' := by
  have hW' := hW
  obtain ⟨p, q, hA0, hV, rfl, hfz, hnd⟩ := hW
  obtain ⟨rfl, rfl⟩ := trodVars_none hV
  have hA1 : DataW.TrodAll enc Tryz.prog W 0 (fun _ => true) true Tryz.f10.params.toList args.toList ds (p ++ []) := by rw [List.append_nil]; exact hA0
  have hA : DataW.TrodAll enc Tryz.prog W 0 (fun _ => true) true Tryz.f10.params.toList args.toList ds p := hA0
  rw [Tryz.params10] at hA hval
  obtain ⟨v0, vs0, d0, ds0, p0, q0, hargs, rfl, rfl, h0, r0⟩ := trodAll_cons hA
  obtain ⟨v1, vs1, d1, ds1, p1, q1, rfl, rfl, rfl, h1, r1⟩ := trodAll_cons r0
  obtain ⟨v2, vs2, d2, ds2, p2, q2, rfl, rfl, rfl, h2, r2⟩ := trodAll_cons r1
  obtain ⟨rfl, rfl, rfl⟩ := trodAll_nil r2
  obtain rfl : args = #[v0, v1, v2] := by cases args; simp_all
  obtain ⟨A0, l0, n0, rfl, S0, u0, m0, in0⟩ := open_kys (hval 0 22 v0 rfl rfl) h0
  obtain ⟨x1, q1, rfl, at1, in1⟩ := open_cl (hval 1 25 v1 rfl rfl) h1
  obtain ⟨x2, q2, rfl, at2, in2⟩ := open_cl (hval 2 25 v2 rfl rfl) h2
  obtain ⟨hk, hp, hE, hd⟩ := laid_tabs hL
  refine (walk l0 A0 n0 x1 x2 q1 q2 W hd hp hk hE S0 u0 m0 in0 at1 at2 in1 in2).mono fun e W' ⟨he, hb⟩ => ?_
  subst he
  exact ⟨_, rfl, law_post laidOut (by kernel_rfl) (by kernel_rfl) Tryz.underlying4 hW' rfl rfl hA1 hb⟩

set_option maxRecDepth 100000 in
theorem reads (w : World) {H : Type} (enc : TypeId × Value → H) : ∃ places, DataW.whole enc Tryz.prog w Tryz.f10.params.toList Rows.tokenDiffersSpec.vars false #[Value.slice none 0 0, .agg #[.string ByteArray.empty, .string ByteArray.empty, .string ByteArray.empty, .string ByteArray.empty, .string ByteArray.empty, .string ByteArray.empty, .string ByteArray.empty, .string ByteArray.empty, .slice none 0 0, .slice none 0 0, .slice none 0 0, .int .i64 0, .int .i64 0, .int .i64 0, .int .i64 0, .int .i64 0], .agg #[.string ByteArray.empty, .string ByteArray.empty, .string ByteArray.empty, .string ByteArray.empty, .string ByteArray.empty, .string ByteArray.empty, .string ByteArray.empty, .string ByteArray.empty, .slice none 0 0, .slice none 0 0, .slice none 0 0, .int .i64 0, .int .i64 0, .int .i64 0, .int .i64 0, .int .i64 0]].toList 8 = some ([.nil, .agg [.lit (.string []), .lit (.string []), .lit (.string []), .lit (.string []), .lit (.string []), .lit (.string []), .lit (.string []), .lit (.string []), .nil, .nil, .nil, .lit (.int .i64 0), .lit (.int .i64 0), .lit (.int .i64 0), .lit (.int .i64 0), .lit (.int .i64 0)], .agg [.lit (.string []), .lit (.string []), .lit (.string []), .lit (.string []), .lit (.string []), .lit (.string []), .lit (.string []), .lit (.string []), .nil, .nil, .nil, .lit (.int .i64 0), .lit (.int .i64 0), .lit (.int .i64 0), .lit (.int .i64 0), .lit (.int .i64 0)]], [], places) :=
  ⟨[], by kernel_rfl⟩
theorem args_ok (w : World) : Input.okWideB Tryz.prog w 10 ⟨#[], #[.slice none 0 0, .agg #[.string ByteArray.empty, .string ByteArray.empty, .string ByteArray.empty, .string ByteArray.empty, .string ByteArray.empty, .string ByteArray.empty, .string ByteArray.empty, .string ByteArray.empty, .slice none 0 0, .slice none 0 0, .slice none 0 0, .int .i64 0, .int .i64 0, .int .i64 0, .int .i64 0, .int .i64 0], .agg #[.string ByteArray.empty, .string ByteArray.empty, .string ByteArray.empty, .string ByteArray.empty, .string ByteArray.empty, .string ByteArray.empty, .string ByteArray.empty, .string ByteArray.empty, .slice none 0 0, .slice none 0 0, .slice none 0 0, .int .i64 0, .int .i64 0, .int .i64 0, .int .i64 0, .int .i64 0]], []⟩ = true := by kernel_rfl
set_option maxRecDepth 100000 in
theorem lifted (os : Os) (started : os.Started) (H : Type) (enc : TypeId × Value → H) (F : Stop.Interp) :
    ReturnsInHanded {} Tryz.checked os 10 .any ((OpenSpec.ofChange Rows.tokenDiffersSpec).preRow enc Tryz.prog Tryz.f10 Rows.tokenDiffersRow.domain false Rows.tokenDiffersRow.laid) (((OpenSpec.ofChange Rows.tokenDiffersSpec).at F).post enc Tryz.prog Tryz.f10 false true false false) := by
  obtain ⟨places, hx⟩ := reads _ enc
  refine returnsInHanded_of_row (C := Tryz.checked) (s := OpenSpec.ofChange Rows.tokenDiffersSpec) own started (by kernel_rfl) Tryz.func10
    (witness_row_at (enc := enc) (C := Tryz.checked) false (World.laidAll Tryz.prog os laidList) #[.slice none 0 0, .agg #[.string ByteArray.empty, .string ByteArray.empty, .string ByteArray.empty, .string ByteArray.empty, .string ByteArray.empty, .string ByteArray.empty, .string ByteArray.empty, .string ByteArray.empty, .slice none 0 0, .slice none 0 0, .slice none 0 0, .int .i64 0, .int .i64 0, .int .i64 0, .int .i64 0, .int .i64 0], .agg #[.string ByteArray.empty, .string ByteArray.empty, .string ByteArray.empty, .string ByteArray.empty, .string ByteArray.empty, .string ByteArray.empty, .string ByteArray.empty, .string ByteArray.empty, .slice none 0 0, .slice none 0 0, .slice none 0 0, .int .i64 0, .int .i64 0, .int .i64 0, .int .i64 0, .int .i64 0]] (World.laidAll_os _ _ _) (w_hv os _) (w_hr os _) (args_ok _)
      (OpenSpec.preRow_of_cond 8 hx (by kernel_rfl) (fun k hk => by cases hk) (by kernel_rfl) (w_laid os _))) ?_
  intro W base args ds gs before hval hW _ _ _ hL _ _
  exact contract H enc W base args ds gs before hval hW hL

theorem said : Rows.TokenDiffersSaid :=
  OpenClaim.holds_of_cond 10 Tryz.f10 rfl rfl rfl rfl rfl rfl rfl ⟨rfl, rfl, rfl, rfl, rfl⟩ rfl rfl rfl rfl rfl (by kernel_rfl) Tryz.func10 (by kernel_rfl)
    (of_decide_eq_true (by kernel_rfl)) (by unfold Func.isWrapper; first | (rw [if_pos (by decide +kernel)]; kernel_rfl) | (rw [if_neg (by decide +kernel)]; exact ⟨rfl, rfl⟩))
    (fun os started H enc _ F => by rw [OpenClaim.pre_eq_preRow]; exact lifted os started H enc F)

theorem plain (f : FuncId) (fn : Func) (hf : Tryz.pinned.checked.prog.funcNamed Rows.tokenDiffersRow.func = some f) (hfn : Tryz.pinned.checked.prog.funcs[f]? = some fn) :
    true = Tryz.pinned.checked.prog.looks [] ∧ ∀ (j : Nat) t, fn.params[j]? = some t → Tryz.pinned.checked.prog.wantsStandIn t = false := by
  obtain rfl : f = 10 := Option.some.inj ((show Tryz.prog.funcNamed Rows.tokenDiffersRow.func = some 10 by kernel_rfl).symm.trans hf) |>.symm
  obtain rfl : fn = Tryz.f10 := (Option.some.inj (Tryz.func10.symm.trans hfn)).symm
  refine ⟨by kernel_rfl, fun j t ht => ?_⟩
  rw [Tryz.params10] at ht
  have hm : t ∈ [22, 25, 25] := by simpa using Array.mem_of_getElem? ht
  have hall : ([22, 25, 25].all fun u => !Tryz.prog.wantsStandIn u) = true := by kernel_rfl
  exact (show Tryz.prog.wantsStandIn t = false by simpa using List.all_eq_true.1 hall t hm)

theorem card : Rows.TokenDiffersCardSaid :=
  Claim7.holds_tied_plain_at .later [] _ _ _ _ said (fun _ h => by cases h) (by kernel_rfl) (fun _ h => by cases h) tokenDiffers_row_tie rfl ⟨rfl, rfl⟩ (by kernel_rfl) rfl plain (by kernel_rfl)
end Go.Proofs.YtiiioefjdebggaaGreatDoor.tokenDiffers
