/- CodecBase64: for every two strings the law answers true and leaves its arguments alone; no condition. -/
import Derived.Lay
import Derived.Test.YtnkblimmlkidcaaDoorCards
import Derived.Test.YtnkblimmlkidcaaDoorTie
import Derived.Test.YtnkblimmlkidcaaDoorCodLaid
import Derived.Test.YtnkblimmlkidcaaDoorCodLive
import Derived.Test.YtnkblimmlkidcaaDoorCodRR64
import Derived.Test.YtnkblimmlkidcaaDoorCodRef64
import Derived.Test.YtnkblimmlkidcaaDoorCodR64
namespace Go.Proofs.YtnkblimmlkidcaaDoor.codecBase64
open Go.ChangeShapes Go.WideShapes Go.ChangeAt Go.RowKit
open Go.ChangeMaps (open_string)


set_option maxHeartbeats 4000000 in
theorem walk (s t : ByteArray) (w : World) (hp : PowOk w) (hE : ErrsOk w) (hs : s.size ≤ 9223372036854775807) (ht : t.size ≤ 9223372036854775807) :
    Calls Tryd.prog 10 #[.string s, .string t] w fun e w' => e = .returned (.bool true) ∧ Below w.heap.size w w' := by
  have B0 := Lib.hid (Below.refl w.heap.size w)
  have hcs : 300 < s.size ∨ (¬ 300 < s.size ∧ 300 < t.size) ∨ (s.size ≤ 300 ∧ t.size ≤ 300) := by omega
  rcases hcs with h | ⟨h, h2⟩ | ⟨h, h2⟩
  ·
    go_enter Tryd.func10, Tryd.ntmps10
    go_wp2_with fail
    refine (live_any _ (hp.below B0.out) (hE.below B0.out)).mono ?_
    rintro e w1 ⟨rfl, hb1⟩
    have B1 := Lib.hid (bthen B0.out hb1)
    have G1 := Lib.hid hb1
    clear hb1
    go_wp2_with fail
    go_ret
    exact ⟨rfl, B1.out⟩
  ·
    go_enter Tryd.func10, Tryd.ntmps10
    go_wp2_with fail
    refine (live_any _ (hp.below B0.out) (hE.below B0.out)).mono ?_
    rintro e w1 ⟨rfl, hb1⟩
    have B1 := Lib.hid (bthen B0.out hb1)
    have G1 := Lib.hid hb1
    clear hb1
    go_wp2_with fail
    go_ret
    exact ⟨rfl, B1.out⟩
  · have z1 := b64S_size s
    have hz1 : (b64S s).size ≤ 1000 := by omega
    have HZ1 := Lib.hid z1
    have hlen : (((b64S s).size : Int) == (4 * (s.size : Int) + 2) / 3) = true := by rw [z1, beq_iff_eq]; omega
    clear z1
    have HR := Lib.hid (read_good (readB64_b64 s))
    cases ho : readB64O t with
    | none =>
      have HK := Lib.hid (read_bad ho)
      clear ho
      go_enter Tryd.func10, Tryd.ntmps10
      go_wp2_with fail
      refine (base64_any s _ (by omega)).mono ?_
      rintro e w1 ⟨rfl, hb1⟩
      have B1 := Lib.hid (bthen B0.out hb1)
      have G1 := Lib.hid hb1
      clear hb1
      go_wp2_with fail
      refine (readb64_any (b64S s) _ (by omega)).mono ?_
      rintro e w2 ⟨rfl, hb2⟩
      rw [HR.out.1, HR.out.2]
      have B2 := Lib.hid (bthen B1.out hb2)
      have G2 := Lib.hid hb2
      clear hb2
      go_wp2_with fail
      refine (readb64_any t _ (by omega)).mono ?_
      rintro e w3 ⟨rfl, hb3⟩
      rw [HK.out.1, HK.out.2]
      have B3 := Lib.hid (bthen B2.out hb3)
      have G3 := Lib.hid hb3
      clear hb3
      go_wp2_with fail
      refine (rreadb64_any t _ (by omega)).mono ?_
      rintro e w4 ⟨rfl, hb4⟩
      rw [HK.out.1, HK.out.2]
      have B4 := Lib.hid (bthen B3.out hb4)
      have G4 := Lib.hid hb4
      clear hb4
      go_wp2_with fail
      refine (rbase64_any s _ (by omega)).mono ?_
      rintro e w5 ⟨rfl, hb5⟩
      have B5 := Lib.hid (bthen B4.out hb5)
      have G5 := Lib.hid hb5
      clear hb5
      go_wp2_with fail
      refine (live_any _ (hp.below B5.out) (hE.below B5.out)).mono ?_
      rintro e w6 ⟨rfl, hb6⟩
      have B6 := Lib.hid (bthen B5.out hb6)
      have G6 := Lib.hid hb6
      clear hb6
      go_wp2_with fail
      go_ret
      exact ⟨rfl, B6.out⟩
    | some v =>
      have HK := Lib.hid (read_good ho)
      have HJ := Lib.hid (b64_readB64 ho)
      have HV : Hid (v.size ≤ 300) := Lib.hid (by have h1 := b64S_size v; rw [b64_readB64 ho] at h1; omega)
      clear ho
      go_enter Tryd.func10, Tryd.ntmps10
      go_wp2_with fail
      refine (base64_any s _ (by omega)).mono ?_
      rintro e w1 ⟨rfl, hb1⟩
      have B1 := Lib.hid (bthen B0.out hb1)
      have G1 := Lib.hid hb1
      clear hb1
      go_wp2_with fail
      refine (readb64_any (b64S s) _ (by omega)).mono ?_
      rintro e w2 ⟨rfl, hb2⟩
      rw [HR.out.1, HR.out.2]
      have B2 := Lib.hid (bthen B1.out hb2)
      have G2 := Lib.hid hb2
      clear hb2
      go_wp2_with fail
      refine (readb64_any t _ (by omega)).mono ?_
      rintro e w3 ⟨rfl, hb3⟩
      rw [HK.out.1, HK.out.2]
      have B3 := Lib.hid (bthen B2.out hb3)
      have G3 := Lib.hid hb3
      clear hb3
      go_wp2_with fail
      refine (rreadb64_any t _ (by omega)).mono ?_
      rintro e w4 ⟨rfl, hb4⟩
      rw [HK.out.1, HK.out.2]
      have B4 := Lib.hid (bthen B3.out hb4)
      have G4 := Lib.hid hb4
      clear hb4
      go_wp2_with fail
      refine (rbase64_any s _ (by omega)).mono ?_
      rintro e w5 ⟨rfl, hb5⟩
      have B5 := Lib.hid (bthen B4.out hb5)
      have G5 := Lib.hid hb5
      clear hb5
      go_wp2_with fail
      refine (base64_any v _ (by have := HV.out; omega)).mono ?_
      rintro e w6 ⟨rfl, hb6⟩
      rw [HJ.out]
      have B6 := Lib.hid (bthen B5.out hb6)
      have G6 := Lib.hid hb6
      clear hb6
      go_wp2_with fail
      refine (live_any _ (hp.below B6.out) (hE.below B6.out)).mono ?_
      rintro e w7 ⟨rfl, hb7⟩
      have B7 := Lib.hid (bthen B6.out hb7)
      have G7 := Lib.hid hb7
      clear hb7
      go_wp2_with fail
      go_ret
      exact ⟨rfl, B7.out⟩

set_option maxRecDepth 100000 in
/-- What the walk gives, for every argument and every world that holds the listed variables. -/
theorem contract (H : Type) (enc : TypeId × Value → H) (W : World) (base : Nat) (args : Array Value) (ds gs : List (DataW H)) (before : List MemPlace)
    (hval : ∀ (j : Nat) t v, Tryd.f10.params[j]? = some t → args[j]? = some v → Value.okWide Tryd.prog W .any base t v)
    (hW : DataW.Whole enc Tryd.prog Tryd.f10.params.toList Rows.codecBase64Spec.vars false W args.toList ds gs before) (hL : laidMetH Tryd.prog Rows.codecBase64Row.laid W) :
    Calls Tryd.prog 10 args W fun e W' => ∃ v, e = .returned v ∧ Rows.codecBase64Spec.post enc Tryd.prog Tryd.f10 false true false false W args v W' := by
  have hW' := hW
  obtain ⟨p, q, hA0, hV, rfl, hfz, hnd⟩ := hW
  obtain ⟨rfl, rfl⟩ := trodVars_none hV
  have hA1 : DataW.TrodAll enc Tryd.prog W 0 (fun _ => true) true Tryd.f10.params.toList args.toList ds (p ++ []) := by rw [List.append_nil]; exact hA0
  have hA : DataW.TrodAll enc Tryd.prog W 0 (fun _ => true) true Tryd.f10.params.toList args.toList ds p := hA0
  rw [Tryd.params10] at hA hval
  obtain ⟨v0, vs0, d0, ds0, p0, q0, hargs, rfl, rfl, h0, r0⟩ := trodAll_cons hA
  obtain ⟨v1, vs1, d1, ds1, p1, q1, rfl, rfl, rfl, h1, r1⟩ := trodAll_cons r0
  obtain ⟨rfl, rfl, rfl⟩ := trodAll_nil r1
  obtain rfl : args = #[v0, v1] := by cases args; simp_all
  obtain ⟨s0, rfl, rfl, rfl, hs0⟩ := open_string Tryd.underlying9 (hval 0 9 v0 rfl rfl) h0
  have hs0 : s0.size ≤ 9223372036854775807 := by unfold maxLen at hs0; exact hs0
  obtain ⟨s1, rfl, rfl, rfl, hs1⟩ := open_string Tryd.underlying9 (hval 1 9 v1 rfl rfl) h1
  have hs1 : s1.size ≤ 9223372036854775807 := by unfold maxLen at hs1; exact hs1
  obtain ⟨hp, hE⟩ := laid_tabs hL
  refine (walk s0 s1 W hp hE hs0 hs1).mono fun e W' ⟨he, hb⟩ => ?_
  subst he
  exact ⟨_, rfl, law_post laidOut (by kernel_rfl) (by kernel_rfl) Tryd.underlying4 hW' rfl rfl hA1 hb⟩

set_option maxRecDepth 100000 in
theorem reads (w : World) {H : Type} (enc : TypeId × Value → H) : ∃ places, DataW.whole enc Tryd.prog w Tryd.f10.params.toList Rows.codecBase64Spec.vars false #[Value.string ByteArray.empty, .string ByteArray.empty].toList 8 = some ([.lit (.string []), .lit (.string [])], [], places) :=
  ⟨[], by kernel_rfl⟩
theorem args_ok (w : World) : Input.okWideB Tryd.prog w 10 ⟨#[], #[.string ByteArray.empty, .string ByteArray.empty], []⟩ = true := by kernel_rfl
set_option maxRecDepth 100000 in
theorem lifted (os : Os) (started : os.Started) (H : Type) (enc : TypeId × Value → H) (F : Stop.Interp) :
    ReturnsInHanded {} Tryd.checked os 10 .any ((OpenSpec.ofChange Rows.codecBase64Spec).preRow enc Tryd.prog Tryd.f10 Rows.codecBase64Row.domain false Rows.codecBase64Row.laid) (((OpenSpec.ofChange Rows.codecBase64Spec).at F).post enc Tryd.prog Tryd.f10 false true false false) := by
  obtain ⟨places, hx⟩ := reads _ enc
  refine returnsInHanded_of_row (C := Tryd.checked) (s := OpenSpec.ofChange Rows.codecBase64Spec) own started (by kernel_rfl) Tryd.func10
    (witness_row_at (enc := enc) (C := Tryd.checked) false (World.laidAll Tryd.prog os laidList) #[.string ByteArray.empty, .string ByteArray.empty] (World.laidAll_os _ _ _) (w_hv os _) (w_hr os _) (args_ok _)
      (OpenSpec.preRow_of_cond 8 hx (by kernel_rfl) (fun k hk => by cases hk) (by kernel_rfl) (w_laid os _))) ?_
  intro W base args ds gs before hval hW _ _ _ hL _ _
  exact contract H enc W base args ds gs before hval hW hL

theorem said : Rows.CodecBase64Said :=
  OpenClaim.holds_of_cond 10 Tryd.f10 rfl rfl rfl rfl rfl rfl rfl ⟨rfl, rfl, rfl, rfl, rfl⟩ rfl rfl rfl rfl rfl (by kernel_rfl) Tryd.func10 (by kernel_rfl)
    (of_decide_eq_true (by kernel_rfl)) (by unfold Func.isWrapper; first | (rw [if_pos (by decide +kernel)]; kernel_rfl) | (rw [if_neg (by decide +kernel)]; exact ⟨rfl, rfl⟩))
    (fun os started H enc _ F => by rw [OpenClaim.pre_eq_preRow]; exact lifted os started H enc F)

theorem plain (f : FuncId) (fn : Func) (hf : Tryd.pinned.checked.prog.funcNamed Rows.codecBase64Row.func = some f) (hfn : Tryd.pinned.checked.prog.funcs[f]? = some fn) :
    true = Tryd.pinned.checked.prog.looks [] ∧ ∀ (j : Nat) t, fn.params[j]? = some t → Tryd.pinned.checked.prog.wantsStandIn t = false := by
  obtain rfl : f = 10 := Option.some.inj ((show Tryd.prog.funcNamed Rows.codecBase64Row.func = some 10 by kernel_rfl).symm.trans hf) |>.symm
  obtain rfl : fn = Tryd.f10 := (Option.some.inj (Tryd.func10.symm.trans hfn)).symm
  refine ⟨by kernel_rfl, fun j t ht => ?_⟩
  rw [Tryd.params10] at ht
  have hm : t ∈ [9, 9] := by simpa using Array.mem_of_getElem? ht
  have hall : ([9, 9].all fun u => !Tryd.prog.wantsStandIn u) = true := by kernel_rfl
  exact (show Tryd.prog.wantsStandIn t = false by simpa using List.all_eq_true.1 hall t hm)

theorem card : Rows.CodecBase64CardSaid :=
  Claim7.holds_tied_plain_at .later [] _ _ _ _ said (fun _ h => by cases h) (by kernel_rfl) (fun _ h => by cases h) codecBase64_row_tie rfl ⟨rfl, rfl⟩ (by kernel_rfl) rfl plain (by kernel_rfl)
end Go.Proofs.YtnkblimmlkidcaaDoor.codecBase64
