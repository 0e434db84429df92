/- CodecReadsPairs: for every string the law answers true and leaves its argument alone; no condition. -/
import Derived.Lay
import Derived.Test.YtnkblimmlkidcaaDoorCards
import Derived.Test.YtnkblimmlkidcaaDoorTie
import Derived.Test.YtnkblimmlkidcaaDoorCodLaid
import Derived.Test.YtnkblimmlkidcaaDoorCodLive
import Derived.Test.YtnkblimmlkidcaaDoorCodLen
import Derived.Test.YtnkblimmlkidcaaDoorCodRReadPairs
import Derived.Test.YtnkblimmlkidcaaDoorCodSameP
namespace Go.Proofs.YtnkblimmlkidcaaDoor.codecReadsPairs
open Go.ChangeShapes Go.WideShapes Go.ChangeAt Go.RowKit
open Go.ChangeMaps (open_string)


set_option maxHeartbeats 4000000 in
theorem walk (s : ByteArray) (w : World) (hp : PowOk w) (hE : ErrsOk w) (hs : s.size ≤ 9223372036854775807) :
    Calls Tryd.prog 8 #[.string s] w fun e w' => e = .returned (.bool true) ∧ Below w.heap.size w w' := by
  have B0 := Lib.hid (Below.refl w.heap.size w)
  by_cases h : 600 < s.size
  ·
    go_enter Tryd.func8, Tryd.ntmps8
    go_wp2_with fail
    refine (live_any _ (hp.below B0.out) (hE.below B0.out)).mono ?_
    rintro e w1 ⟨rfl, hb1⟩
    have B1 := Lib.hid (bthen B0.out hb1)
    have G1 := Lib.hid hb1
    clear hb1
    go_wp2_with fail
    go_ret
    exact ⟨rfl, B1.out⟩
  · cases ho : readPairsO s with
    | none =>
      have HK := Lib.hid (rp_none ho)
      clear ho
      go_enter Tryd.func8, Tryd.ntmps8
      go_wp2_with fail
      refine (creadPairs_any s _ (by omega)).mono ?_
      rintro e w1 ⟨hr1, hb1⟩
      rw [HK.out.1, HK.out.2] at hr1
      obtain ⟨A, c, rfl, hq, _, _⟩ := hr1
      have HS := Lib.hid hq
      clear hq
      have B1 := Lib.hid (bthen B0.out hb1)
      have G1 := Lib.hid hb1
      clear hb1
      go_wp2_with fail
      refine (rreadPairs_any s _ (by omega)).mono ?_
      rintro e w2 ⟨hr2, hb2⟩
      rw [HK.out.1, HK.out.2] at hr2
      obtain ⟨A2, c2, rfl, hq, _, _⟩ := hr2
      have HS2 := Lib.hid hq
      clear hq
      have B2 := Lib.hid (bthen B1.out hb2)
      have G2 := Lib.hid hb2
      clear hb2
      go_wp2_with fail
      refine (samep_any [] [] A A2 c c2 _ (HS.out.below G2.out) HS2.out (by decide) (by decide)).mono ?_
      rintro e w3 ⟨rfl, hb3⟩
      have B3 := Lib.hid (bthen B2.out hb3)
      have G3 := Lib.hid hb3
      clear hb3
      go_wp2_with fail
      refine (live_any _ (hp.below B3.out) (hE.below B3.out)).mono ?_
      rintro e w4 ⟨rfl, hb4⟩
      have B4 := Lib.hid (bthen B3.out hb4)
      have G4 := Lib.hid hb4
      clear hb4
      go_wp2_with fail
      go_ret
      exact ⟨rfl, B4.out⟩
    | some l =>
      have HK := Lib.hid (rp_some ho)
      have HJ := Lib.hid (pairs_readPairsS ho)
      obtain ⟨n1, z1⟩ := readPairs_len ho
      have hl6 : l.length ≤ 1000000 := by omega
      have HZ : Hid (∀ p ∈ l, p.1.size ≤ 150000 ∧ p.2.size ≤ 150000) := Lib.hid (fun t ht => by have := z1 t ht; omega)
      clear z1 ho
      go_enter Tryd.func8, Tryd.ntmps8
      go_wp2_with fail
      refine (creadPairs_any s _ (by omega)).mono ?_
      rintro e w1 ⟨hr1, hb1⟩
      rw [HK.out.1, HK.out.2] at hr1
      obtain ⟨A, c, rfl, hq, _, _⟩ := hr1
      have HS := Lib.hid hq
      clear hq
      have B1 := Lib.hid (bthen B0.out hb1)
      have G1 := Lib.hid hb1
      clear hb1
      go_wp2_with fail
      refine (rreadPairs_any s _ (by omega)).mono ?_
      rintro e w2 ⟨hr2, hb2⟩
      rw [HK.out.1, HK.out.2] at hr2
      obtain ⟨A2, c2, rfl, hq, _, _⟩ := hr2
      have HS2 := Lib.hid hq
      clear hq
      have B2 := Lib.hid (bthen B1.out hb2)
      have G2 := Lib.hid hb2
      clear hb2
      go_wp2_with fail
      refine (samep_any l l A A2 c c2 _ (HS.out.below G2.out) HS2.out hl6 hl6).mono ?_
      rintro e w3 ⟨rfl, hb3⟩
      have B3 := Lib.hid (bthen B2.out hb3)
      have G3 := Lib.hid hb3
      clear hb3
      go_wp2_with fail
      refine (cpairs_any l A c _ ((HS.out.below G2.out).below G3.out) hl6 HZ.out).mono ?_
      rintro e w4 ⟨rfl, hb4⟩
      rw [HJ.out]
      have B4 := Lib.hid (bthen B3.out hb4)
      have G4 := Lib.hid hb4
      clear hb4
      go_wp2_with fail
      refine (live_any _ (hp.below B4.out) (hE.below B4.out)).mono ?_
      rintro e w5 ⟨rfl, hb5⟩
      have B5 := Lib.hid (bthen B4.out hb5)
      have G5 := Lib.hid hb5
      clear hb5
      go_wp2_with fail
      go_ret
      exact ⟨rfl, B5.out⟩

set_option maxRecDepth 100000 in
/-- What the walk gives, for every argument and every world that holds the listed variables. -/
theorem contract (H : Type) (enc : TypeId × Value → H) (W : World) (base : Nat) (args : Array Value) (ds gs : List (DataW H)) (before : List MemPlace)
    (hval : ∀ (j : Nat) t v, Tryd.f8.params[j]? = some t → args[j]? = some v → Value.okWide Tryd.prog W .any base t v)
    (hW : DataW.Whole enc Tryd.prog Tryd.f8.params.toList Rows.codecReadsPairsSpec.vars false W args.toList ds gs before) (hL : laidMetH Tryd.prog Rows.codecReadsPairsRow.laid W) :
    Calls Tryd.prog 8 args W fun e W' => ∃ v, e = .returned v ∧ Rows.codecReadsPairsSpec.post enc Tryd.prog Tryd.f8 false true false false W args v W' := by
  have hW' := hW
  obtain ⟨p, q, hA0, hV, rfl, hfz, hnd⟩ := hW
  obtain ⟨rfl, rfl⟩ := trodVars_none hV
  have hA1 : DataW.TrodAll enc Tryd.prog W 0 (fun _ => true) true Tryd.f8.params.toList args.toList ds (p ++ []) := by rw [List.append_nil]; exact hA0
  have hA : DataW.TrodAll enc Tryd.prog W 0 (fun _ => true) true Tryd.f8.params.toList args.toList ds p := hA0
  rw [Tryd.params8] at hA hval
  obtain ⟨v0, vs0, d0, ds0, p0, q0, hargs, rfl, rfl, h0, r0⟩ := trodAll_cons hA
  obtain ⟨rfl, rfl, rfl⟩ := trodAll_nil r0
  obtain rfl : args = #[v0] := by cases args; simp_all
  obtain ⟨s0, rfl, rfl, rfl, hs0⟩ := open_string Tryd.underlying9 (hval 0 9 v0 rfl rfl) h0
  have hs0 : s0.size ≤ 9223372036854775807 := by unfold maxLen at hs0; exact hs0
  obtain ⟨hp, hE⟩ := laid_tabs hL
  refine (walk s0 W hp hE hs0).mono fun e W' ⟨he, hb⟩ => ?_
  subst he
  exact ⟨_, rfl, law_post laidOut (by kernel_rfl) (by kernel_rfl) Tryd.underlying4 hW' rfl rfl hA1 hb⟩

set_option maxRecDepth 100000 in
theorem reads (w : World) {H : Type} (enc : TypeId × Value → H) : ∃ places, DataW.whole enc Tryd.prog w Tryd.f8.params.toList Rows.codecReadsPairsSpec.vars false #[Value.string ByteArray.empty].toList 8 = some ([.lit (.string [])], [], places) :=
  ⟨[], by kernel_rfl⟩
theorem args_ok (w : World) : Input.okWideB Tryd.prog w 8 ⟨#[], #[.string ByteArray.empty], []⟩ = true := by kernel_rfl
set_option maxRecDepth 100000 in
theorem lifted (os : Os) (started : os.Started) (H : Type) (enc : TypeId × Value → H) (F : Stop.Interp) :
    ReturnsInHanded {} Tryd.checked os 8 .any ((OpenSpec.ofChange Rows.codecReadsPairsSpec).preRow enc Tryd.prog Tryd.f8 Rows.codecReadsPairsRow.domain false Rows.codecReadsPairsRow.laid) (((OpenSpec.ofChange Rows.codecReadsPairsSpec).at F).post enc Tryd.prog Tryd.f8 false true false false) := by
  obtain ⟨places, hx⟩ := reads _ enc
  refine returnsInHanded_of_row (C := Tryd.checked) (s := OpenSpec.ofChange Rows.codecReadsPairsSpec) own started (by kernel_rfl) Tryd.func8
    (witness_row_at (enc := enc) (C := Tryd.checked) false (World.laidAll Tryd.prog os laidList) #[.string ByteArray.empty] (World.laidAll_os _ _ _) (w_hv os _) (w_hr os _) (args_ok _)
      (OpenSpec.preRow_of_cond 8 hx (by kernel_rfl) (fun k hk => by cases hk) (by kernel_rfl) (w_laid os _))) ?_
  intro W base args ds gs before hval hW _ _ _ hL _ _
  exact contract H enc W base args ds gs before hval hW hL

theorem said : Rows.CodecReadsPairsSaid :=
  OpenClaim.holds_of_cond 8 Tryd.f8 rfl rfl rfl rfl rfl rfl rfl ⟨rfl, rfl, rfl, rfl, rfl⟩ rfl rfl rfl rfl rfl (by kernel_rfl) Tryd.func8 (by kernel_rfl)
    (of_decide_eq_true (by kernel_rfl)) (by unfold Func.isWrapper; first | (rw [if_pos (by decide +kernel)]; kernel_rfl) | (rw [if_neg (by decide +kernel)]; exact ⟨rfl, rfl⟩))
    (fun os started H enc _ F => by rw [OpenClaim.pre_eq_preRow]; exact lifted os started H enc F)

theorem plain (f : FuncId) (fn : Func) (hf : Tryd.pinned.checked.prog.funcNamed Rows.codecReadsPairsRow.func = some f) (hfn : Tryd.pinned.checked.prog.funcs[f]? = some fn) :
    true = Tryd.pinned.checked.prog.looks [] ∧ ∀ (j : Nat) t, fn.params[j]? = some t → Tryd.pinned.checked.prog.wantsStandIn t = false := by
  obtain rfl : f = 8 := Option.some.inj ((show Tryd.prog.funcNamed Rows.codecReadsPairsRow.func = some 8 by kernel_rfl).symm.trans hf) |>.symm
  obtain rfl : fn = Tryd.f8 := (Option.some.inj (Tryd.func8.symm.trans hfn)).symm
  refine ⟨by kernel_rfl, fun j t ht => ?_⟩
  rw [Tryd.params8] at ht
  have hm : t ∈ [9] := by simpa using Array.mem_of_getElem? ht
  have hall : ([9].all fun u => !Tryd.prog.wantsStandIn u) = true := by kernel_rfl
  exact (show Tryd.prog.wantsStandIn t = false by simpa using List.all_eq_true.1 hall t hm)

theorem card : Rows.CodecReadsPairsCardSaid :=
  Claim7.holds_tied_plain_at .later [] _ _ _ _ said (fun _ h => by cases h) (by kernel_rfl) (fun _ h => by cases h) codecReadsPairs_row_tie rfl ⟨rfl, rfl⟩ (by kernel_rfl) rfl plain (by kernel_rfl)
end Go.Proofs.YtnkblimmlkidcaaDoor.codecReadsPairs
