/- CodecInts: for every number and every string the law answers true and leaves its arguments alone; no condition. -/
import Derived.Lay
import Derived.Test.YtnkblimmlkidcaaDoorCards
import Derived.Test.YtnkblimmlkidcaaDoorTie
import Derived.Test.YtnkblimmlkidcaaDoorCodLaid
import Derived.Test.YtnkblimmlkidcaaDoorCodLive
import Derived.Test.YtnkblimmlkidcaaDoorCodRReadInt
import Derived.Test.YtnkblimmlkidcaaDoorCodRefInt
namespace Go.Proofs.YtnkblimmlkidcaaDoor.codecInts
open Go.ChangeShapes Go.WideShapes Go.ChangeAt Go.RowKit
open Go.ChangeMaps (open_string)


theorem int_cases (s : ByteArray) : (∃ c, c ≠ 0 ∧ readIntP s = (0, c)) ∨ ∃ z, readIntP s = (z, 0) ∧ inInt z ∧ itoaS z = s := by
  have hi := fun h => itoa_readInt (s := s) h
  unfold readIntP at *
  by_cases hf : intForm s.data.toList = true
  · rw [if_pos hf] at *
    by_cases hr : inInt (intVal s.data.toList)
    · rw [if_pos hr] at *
      exact .inr ⟨_, rfl, hr, hi rfl⟩
    · rw [if_neg hr] at *
      exact .inl ⟨27, by decide, rfl⟩
  · rw [if_neg hf] at *
    exact .inl ⟨4, by decide, rfl⟩
set_option maxHeartbeats 4000000 in
theorem walk (n : Int) (s : ByteArray) (w : World) (hp : PowOk w) (hE : ErrsOk w) (h0 : -9223372036854775808 ≤ n) (h1 : n ≤ 9223372036854775807) (hs : s.size ≤ 9223372036854775807) :
    Calls Tryd.prog 9 #[.int .i64 n, .string s] w fun e w' => e = .returned (.bool true) ∧ Below w.heap.size w w' := by
  have B0 := Lib.hid (Below.refl w.heap.size w)
  have HN := Lib.hid (And.intro h0 h1)
  have HR := Lib.hid (readInt_itoa n h0 h1)
  have hzn := itoaS_size n h0 h1
  clear h0 h1
  by_cases h : 300 < s.size
  ·
    go_enter Tryd.func9, Tryd.ntmps9
    go_wp2_with fail
    refine (live_any _ (hp.below B0.out) (hE.below B0.out)).mono ?_
    rintro e w1 ⟨rfl, hb1⟩
    have B1 := Lib.hid (bthen B0.out hb1)
    have G1 := Lib.hid hb1
    clear hb1
    go_wp2_with fail
    go_ret
    exact ⟨rfl, B1.out⟩
  · rcases int_cases s with ⟨c, hc, hz⟩ | ⟨z, hz, hin, hj⟩
    · have HZ := Lib.hid hz
      have hc2 : (c == 0) = false := by rw [beq_eq_false_iff_ne]; exact hc
      have hc3 : (c != 0) = true := by rw [bne_iff_ne]; exact hc
      clear hz hc
      go_enter Tryd.func9, Tryd.ntmps9
      go_wp2_with fail
      refine (cint_any n _ HN.out.1 HN.out.2 (hp.below B0.out)).mono ?_
      rintro e w1 ⟨rfl, hb1⟩
      have B1 := Lib.hid (bthen B0.out hb1)
      have G1 := Lib.hid hb1
      clear hb1
      go_wp2_with fail
      refine (readint_any (itoaS n) _ (by omega) (hE.below B1.out)).mono ?_
      rintro e w2 ⟨rfl, hb2⟩
      rw [HR.out]
      have B2 := Lib.hid (bthen B1.out hb2)
      have G2 := Lib.hid hb2
      clear hb2
      go_wp2_with fail
      refine (readint_any s _ (by omega) (hE.below B2.out)).mono ?_
      rintro e w3 ⟨rfl, hb3⟩
      rw [HZ.out]
      have B3 := Lib.hid (bthen B2.out hb3)
      have G3 := Lib.hid hb3
      clear hb3
      go_wp2_with fail
      refine (rreadint_any s _ (by omega)).mono ?_
      rintro e w4 ⟨rfl, hb4⟩
      rw [HZ.out]
      have B4 := Lib.hid (bthen B3.out hb4)
      have G4 := Lib.hid hb4
      clear hb4
      go_wp2_with fail
      refine (cint_any n _ HN.out.1 HN.out.2 (hp.below B4.out)).mono ?_
      rintro e w5 ⟨rfl, hb5⟩
      have B5 := Lib.hid (bthen B4.out hb5)
      have G5 := Lib.hid hb5
      clear hb5
      go_wp2_with fail
      refine (rint_any n _ HN.out.1 HN.out.2).mono ?_
      rintro e w6 ⟨rfl, hb6⟩
      have B6 := Lib.hid (bthen B5.out hb6)
      have G6 := Lib.hid hb6
      clear hb6
      go_wp2_with fail
      refine (live_any _ (hp.below B6.out) (hE.below B6.out)).mono ?_
      rintro e w7 ⟨rfl, hb7⟩
      have B7 := Lib.hid (bthen B6.out hb7)
      have G7 := Lib.hid hb7
      clear hb7
      go_wp2_with fail
      go_ret
      exact ⟨rfl, B7.out⟩
    · have HZ := Lib.hid hz
      have HB := Lib.hid hin
      have HJ := Lib.hid hj
      clear hz hin hj
      go_enter Tryd.func9, Tryd.ntmps9
      go_wp2_with fail
      refine (cint_any n _ HN.out.1 HN.out.2 (hp.below B0.out)).mono ?_
      rintro e w1 ⟨rfl, hb1⟩
      have B1 := Lib.hid (bthen B0.out hb1)
      have G1 := Lib.hid hb1
      clear hb1
      go_wp2_with fail
      refine (readint_any (itoaS n) _ (by omega) (hE.below B1.out)).mono ?_
      rintro e w2 ⟨rfl, hb2⟩
      rw [HR.out]
      have B2 := Lib.hid (bthen B1.out hb2)
      have G2 := Lib.hid hb2
      clear hb2
      go_wp2_with fail
      refine (readint_any s _ (by omega) (hE.below B2.out)).mono ?_
      rintro e w3 ⟨rfl, hb3⟩
      rw [HZ.out]
      have B3 := Lib.hid (bthen B2.out hb3)
      have G3 := Lib.hid hb3
      clear hb3
      go_wp2_with fail
      refine (rreadint_any s _ (by omega)).mono ?_
      rintro e w4 ⟨rfl, hb4⟩
      rw [HZ.out]
      have B4 := Lib.hid (bthen B3.out hb4)
      have G4 := Lib.hid hb4
      clear hb4
      go_wp2_with fail
      refine (cint_any n _ HN.out.1 HN.out.2 (hp.below B4.out)).mono ?_
      rintro e w5 ⟨rfl, hb5⟩
      have B5 := Lib.hid (bthen B4.out hb5)
      have G5 := Lib.hid hb5
      clear hb5
      go_wp2_with fail
      refine (rint_any n _ HN.out.1 HN.out.2).mono ?_
      rintro e w6 ⟨rfl, hb6⟩
      have B6 := Lib.hid (bthen B5.out hb6)
      have G6 := Lib.hid hb6
      clear hb6
      go_wp2_with fail
      refine (cint_any z _ HB.out.1 HB.out.2 (hp.below B6.out)).mono ?_
      rintro e w7 ⟨rfl, hb7⟩
      rw [HJ.out]
      have B7 := Lib.hid (bthen B6.out hb7)
      have G7 := Lib.hid hb7
      clear hb7
      go_wp2_with fail
      refine (live_any _ (hp.below B7.out) (hE.below B7.out)).mono ?_
      rintro e w8 ⟨rfl, hb8⟩
      have B8 := Lib.hid (bthen B7.out hb8)
      have G8 := Lib.hid hb8
      clear hb8
      go_wp2_with fail
      go_ret
      exact ⟨rfl, B8.out⟩

set_option maxRecDepth 100000 in
/-- What the walk gives, for every argument and every world that holds the listed variables. -/
theorem contract (H : Type) (enc : TypeId × Value → H) (W : World) (base : Nat) (args : Array Value) (ds gs : List (DataW H)) (before : List MemPlace)
    (hval : ∀ (j : Nat) t v, Tryd.f9.params[j]? = some t → args[j]? = some v → Value.okWide Tryd.prog W .any base t v)
    (hW : DataW.Whole enc Tryd.prog Tryd.f9.params.toList Rows.codecIntsSpec.vars false W args.toList ds gs before) (hL : laidMetH Tryd.prog Rows.codecIntsRow.laid W) :
    Calls Tryd.prog 9 args W fun e W' => ∃ v, e = .returned v ∧ Rows.codecIntsSpec.post enc Tryd.prog Tryd.f9 false true false false W args v W' := by
  have hW' := hW
  obtain ⟨p, q, hA0, hV, rfl, hfz, hnd⟩ := hW
  obtain ⟨rfl, rfl⟩ := trodVars_none hV
  have hA1 : DataW.TrodAll enc Tryd.prog W 0 (fun _ => true) true Tryd.f9.params.toList args.toList ds (p ++ []) := by rw [List.append_nil]; exact hA0
  have hA : DataW.TrodAll enc Tryd.prog W 0 (fun _ => true) true Tryd.f9.params.toList args.toList ds p := hA0
  rw [Tryd.params9] at hA hval
  obtain ⟨v0, vs0, d0, ds0, p0, q0, hargs, rfl, rfl, h0, r0⟩ := trodAll_cons hA
  obtain ⟨v1, vs1, d1, ds1, p1, q1, rfl, rfl, rfl, h1, r1⟩ := trodAll_cons r0
  obtain ⟨rfl, rfl, rfl⟩ := trodAll_nil r1
  obtain rfl : args = #[v0, v1] := by cases args; simp_all
  obtain ⟨n0, rfl, rfl, rfl, wn0⟩ := open_int Tryd.underlying3 (hval 0 3 v0 rfl rfl) h0
  obtain ⟨lo0, hi0⟩ := bounds_i64 wn0
  obtain ⟨s1, rfl, rfl, rfl, hs1⟩ := open_string Tryd.underlying9 (hval 1 9 v1 rfl rfl) h1
  have hs1 : s1.size ≤ 9223372036854775807 := by unfold maxLen at hs1; exact hs1
  obtain ⟨hp, hE⟩ := laid_tabs hL
  refine (walk n0 s1 W hp hE lo0 hi0 hs1).mono fun e W' ⟨he, hb⟩ => ?_
  subst he
  exact ⟨_, rfl, law_post laidOut (by kernel_rfl) (by kernel_rfl) Tryd.underlying4 hW' rfl rfl hA1 hb⟩

set_option maxRecDepth 100000 in
theorem reads (w : World) {H : Type} (enc : TypeId × Value → H) : ∃ places, DataW.whole enc Tryd.prog w Tryd.f9.params.toList Rows.codecIntsSpec.vars false #[Value.int .i64 0, .string ByteArray.empty].toList 8 = some ([.lit (.int .i64 0), .lit (.string [])], [], places) :=
  ⟨[], by kernel_rfl⟩
theorem args_ok (w : World) : Input.okWideB Tryd.prog w 9 ⟨#[], #[.int .i64 0, .string ByteArray.empty], []⟩ = true := by kernel_rfl
set_option maxRecDepth 100000 in
theorem lifted (os : Os) (started : os.Started) (H : Type) (enc : TypeId × Value → H) (F : Stop.Interp) :
    ReturnsInHanded {} Tryd.checked os 9 .any ((OpenSpec.ofChange Rows.codecIntsSpec).preRow enc Tryd.prog Tryd.f9 Rows.codecIntsRow.domain false Rows.codecIntsRow.laid) (((OpenSpec.ofChange Rows.codecIntsSpec).at F).post enc Tryd.prog Tryd.f9 false true false false) := by
  obtain ⟨places, hx⟩ := reads _ enc
  refine returnsInHanded_of_row (C := Tryd.checked) (s := OpenSpec.ofChange Rows.codecIntsSpec) own started (by kernel_rfl) Tryd.func9
    (witness_row_at (enc := enc) (C := Tryd.checked) false (World.laidAll Tryd.prog os laidList) #[.int .i64 0, .string ByteArray.empty] (World.laidAll_os _ _ _) (w_hv os _) (w_hr os _) (args_ok _)
      (OpenSpec.preRow_of_cond 8 hx (by kernel_rfl) (fun k hk => by cases hk) (by kernel_rfl) (w_laid os _))) ?_
  intro W base args ds gs before hval hW _ _ _ hL _ _
  exact contract H enc W base args ds gs before hval hW hL

theorem said : Rows.CodecIntsSaid :=
  OpenClaim.holds_of_cond 9 Tryd.f9 rfl rfl rfl rfl rfl rfl rfl ⟨rfl, rfl, rfl, rfl, rfl⟩ rfl rfl rfl rfl rfl (by kernel_rfl) Tryd.func9 (by kernel_rfl)
    (of_decide_eq_true (by kernel_rfl)) (by unfold Func.isWrapper; first | (rw [if_pos (by decide +kernel)]; kernel_rfl) | (rw [if_neg (by decide +kernel)]; exact ⟨rfl, rfl⟩))
    (fun os started H enc _ F => by rw [OpenClaim.pre_eq_preRow]; exact lifted os started H enc F)

theorem plain (f : FuncId) (fn : Func) (hf : Tryd.pinned.checked.prog.funcNamed Rows.codecIntsRow.func = some f) (hfn : Tryd.pinned.checked.prog.funcs[f]? = some fn) :
    true = Tryd.pinned.checked.prog.looks [] ∧ ∀ (j : Nat) t, fn.params[j]? = some t → Tryd.pinned.checked.prog.wantsStandIn t = false := by
  obtain rfl : f = 9 := Option.some.inj ((show Tryd.prog.funcNamed Rows.codecIntsRow.func = some 9 by kernel_rfl).symm.trans hf) |>.symm
  obtain rfl : fn = Tryd.f9 := (Option.some.inj (Tryd.func9.symm.trans hfn)).symm
  refine ⟨by kernel_rfl, fun j t ht => ?_⟩
  rw [Tryd.params9] at ht
  have hm : t ∈ [3, 9] := by simpa using Array.mem_of_getElem? ht
  have hall : ([3, 9].all fun u => !Tryd.prog.wantsStandIn u) = true := by kernel_rfl
  exact (show Tryd.prog.wantsStandIn t = false by simpa using List.all_eq_true.1 hall t hm)

theorem card : Rows.CodecIntsCardSaid :=
  Claim7.holds_tied_plain_at .later [] _ _ _ _ said (fun _ h => by cases h) (by kernel_rfl) (fun _ h => by cases h) codecInts_row_tie rfl ⟨rfl, rfl⟩ (by kernel_rfl) rfl plain (by kernel_rfl)
end Go.Proofs.YtnkblimmlkidcaaDoor.codecInts
