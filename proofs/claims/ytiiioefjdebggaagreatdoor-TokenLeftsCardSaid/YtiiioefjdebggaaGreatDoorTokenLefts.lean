/- TokenLefts: for every ring of keys, every string and every receiver the law answers true and leaves its arguments alone; no condition. -/
import Derived.Lay
import Derived.Test.YtiiioefjdebggaaGreatDoorCards
import Derived.Test.YtiiioefjdebggaaGreatDoorTie
import Derived.Test.YtiiioefjdebggaaGreatDoorSeg5
import Derived.Test.YtiiioefjdebggaaGreatDoorSeg16
import Derived.Test.YtiiioefjdebggaaGreatDoorSeg18
import Derived.Test.YtiiioefjdebggaaGreatDoorSeg13
import Derived.Test.YtiiioefjdebggaaGreatDoorSeg19
import Derived.Test.YtiiioefjdebggaaGreatDoorSeg15
import Derived.Test.YtiiioefjdebggaaGreatDoorSeg17
namespace Go.Proofs.YtiiioefjdebggaaGreatDoor.tokenLefts
open Go.ChangeShapes Go.WideShapes Go.ChangeAt Go.RowKit
open Go.ChangeMaps (open_string)


set_option linter.unusedSimpArgs false in
set_option maxHeartbeats 8000000 in
set_option maxRecDepth 100000 in
theorem walk (l : List Ky) (A : Option Addr) (cc : Nat) (s : ByteArray) (x : Ex) (w : World) (hd : DigOk w) (hp : PowOk w) (hk : KeysOk w) (hE : ErrsOk w) (hS : KysAt w A l) (hl : l.length ≤ 9223372036854775807) (hin : ∀ x ∈ l, KyIn x) :
    Calls Tryz.prog 5 #[.slice A l.length cc, .string s, exV x] w fun e w' => e = .returned (.bool true) ∧ Below w.heap.size w w' := by
  have B1 : Hid (Below w.heap.size w (w.alloc (exO0 x))) := Lib.hid ((Below.refl _ _).alloc (Nat.le_refl _) _)
  have X1 : Hid (ExBox (w.alloc (exO0 x)) w.heap.size x) := Lib.hid (ExBox.new w x)
  have HS := Lib.hid hS
  have HI := Lib.hid hin
  obtain ⟨L, HL⟩ : ∃ E, Hid (leftV l s x = E) := ⟨_, Lib.hid rfl⟩
  have lln : (L == L) = true := by simp
  clear hS hin
  go_enter Tryz.func5, Tryz.ntmps5
  go_upto_region 1 with (first | (refine box_ex rfl _ rfl _ rfl x rfl ?_) | fail)
  go_wp2_with fail
  refine (few26_any l A cc _ (HS.out.below B1.out) hl).mono ?_
  rintro e w2 ⟨⟨b, rfl, hF⟩, hb2⟩
  have B2 := Lib.hid (bthen B1.out hb2)
  have X2 := Lib.hid (X1.out.below hb2)
  clear hb2
  cases b with
  | false =>
    clear hF
    have BL := B2
    go_wp2_with fail
    refine (example26_any _ (hd.below BL.out) (hp.below BL.out) (hk.below BL.out) (hE.below BL.out)).mono ?_
    rintro e wz ⟨rfl, hbz⟩
    have BZ := Lib.hid (bthen BL.out hbz)
    clear hbz
    go_wp2_with fail
    go_ret
    exact ⟨rfl, BZ.out⟩
  | true =>
    have HF := Lib.hid (few_small (hF rfl).2)
    clear hF
    by_cases hs : s.size ≤ 6000
    · have t1 : decide ((6000 : Int) < (s.size : Int)) = false := decide_eq_false (by omega)
      go_upto_region 3 with fail
      clear t1
      have X3 : Hid (ExBox w2.drew w.heap.size x) := Lib.hid X2.out
      have B3 : Hid (Below w.heap.size w w2.drew) := Lib.hid B2.out.drew
      refine wp_region_held_drew (S := fun w' => ExBox w' w.heap.size x) (by kernel_rfl) ?_ (fun hHeld => ?_)
      · first | exact X3.out | exact X4.out | exact X5.out | exact X6.out
      refine wpAnyH_take (i := 0) (oi := _) (v := ?_) rfl (by kernel_rfl) (by kernel_rfl) (by kernel_rfl) (fun _ _ _ h => h) (Or.inl ⟨by rfl, ?_⟩) (by assumption) ?_
      rotate_left
      · (intro w hSw; (try dsimp only at hSw); go_simp; try with_reducible rfl)
      try simp only [List.getElem_toArray, List.getElem_cons_succ, List.getElem_cons_zero, Act.put, List.setIfInBounds_toArray, List.set_cons_zero, List.set_cons_succ]
      refine wpAnyH_take (i := 1) (oi := _) (v := ?_) rfl (by kernel_rfl) (by kernel_rfl) (by kernel_rfl) (fun _ _ _ h => h) (Or.inl ⟨by rfl, ?_⟩) (by assumption) ?_
      rotate_left
      · (intro w hSw; (try dsimp only at hSw); go_simp; try with_reducible rfl)
      try simp only [List.getElem_toArray, List.getElem_cons_succ, List.getElem_cons_zero, Act.put, List.setIfInBounds_toArray, List.set_cons_zero, List.set_cons_succ]
      refine wpAnyH_take (i := 2) (oi := _) (v := _) rfl (by kernel_rfl) (by kernel_rfl) (by kernel_rfl) (fun _ _ _ h => h) (yields_load_ex (by rfl) _ rfl w.heap.size rfl x (fun _ h => h)) (by assumption) ?_
      try simp only [List.getElem_toArray, List.getElem_cons_succ, List.getElem_cons_zero, Act.put, List.setIfInBounds_toArray, List.set_cons_zero, List.set_cons_succ]
      refine wpAnyH_take (i := 4) (oi := _) (v := ?_) rfl (by kernel_rfl) (by kernel_rfl) (by kernel_rfl) (fun _ _ _ h => h) (Or.inl ⟨by rfl, ?_⟩) (by assumption) ?_
      rotate_left
      · (intro w hSw; (try dsimp only at hSw); go_simp; try with_reducible rfl)
      try simp only [List.getElem_toArray, List.getElem_cons_succ, List.getElem_cons_zero, Act.put, List.setIfInBounds_toArray, List.set_cons_zero, List.set_cons_succ]
      refine wpAnyH_take (i := 5) (oi := _) (v := ?_) rfl (by kernel_rfl) (by kernel_rfl) (by kernel_rfl) (fun _ _ _ h => h) (Or.inl ⟨by rfl, ?_⟩) (by assumption) ?_
      rotate_left
      · (intro w hSw; (try dsimp only at hSw); go_simp; try with_reducible rfl)
      try simp only [List.getElem_toArray, List.getElem_cons_succ, List.getElem_cons_zero, Act.put, List.setIfInBounds_toArray, List.set_cons_zero, List.set_cons_succ]
      refine wpAnyH_take (i := 6) (oi := _) (v := _) rfl (by kernel_rfl) (by kernel_rfl) (by kernel_rfl) (fun _ _ _ h => h) (yields_load_ex (by rfl) _ rfl w.heap.size rfl x (fun _ h => h)) (by assumption) ?_
      try simp only [List.getElem_toArray, List.getElem_cons_succ, List.getElem_cons_zero, Act.put, List.setIfInBounds_toArray, List.set_cons_zero, List.set_cons_succ]
      refine wpAnyH_ready (rs := [3]) (by kernel_rfl) (by simp) ?_
      refine AllReadyH.cons (o := _) rfl (fun K hK => ?_) AllReadyH.nil
      go_simp
      (refine (left26_any l A cc s x _ (hd.below B3.out) (hp.below B3.out) (hk.below B3.out) (hE.below B3.out) (HS.out.below B3.out) hl (by omega) (fun k a b => Nat.le_trans (HF.out k a b) (by decide))).mono ?_; rintro e w4 ⟨rfl, hb4⟩; rw [HL.out]; have X4 := Lib.hid (X3.out.below hb4); have B4 := Lib.hid (bthen B3.out hb4); clear hb4)
      clear hHeld
      refine hK.out _ _ ?_ (fun hHeld => ?_)
      · (try dsimp only); first | exact X3.out | exact X4.out | exact X5.out | exact X6.out
      clear hK K
      try simp only [List.getElem_toArray, List.getElem_cons_succ, List.getElem_cons_zero, Act.put, List.setIfInBounds_toArray, List.set_cons_zero, List.set_cons_succ]
      refine wpAnyH_ready (rs := [7]) (by kernel_rfl) (by simp) ?_
      refine AllReadyH.cons (o := _) rfl (fun K hK => ?_) AllReadyH.nil
      go_simp
      (refine (rleft26_any l A cc s x _ (HS.out.below B4.out) hl (by omega) (fun k a b => Nat.le_trans (HF.out k a b) (by decide)) HI.out).mono ?_; rintro e w5 ⟨rfl, hb5⟩; rw [HL.out]; have X5 := Lib.hid (X4.out.below hb5); have B5 := Lib.hid (bthen B4.out hb5); clear hb5)
      clear hHeld
      refine hK.out _ _ ?_ (fun hHeld => ?_)
      · (try dsimp only); first | exact X3.out | exact X4.out | exact X5.out | exact X6.out
      clear hK K
      try simp only [List.getElem_toArray, List.getElem_cons_succ, List.getElem_cons_zero, Act.put, List.setIfInBounds_toArray, List.set_cons_zero, List.set_cons_succ]
      refine wpAnyH_take (i := 8) (oi := _) (v := ?_) rfl (by kernel_rfl) (by kernel_rfl) (by kernel_rfl) (fun _ _ _ h => h) (Or.inl ⟨by rfl, ?_⟩) (by assumption) ?_
      rotate_left
      · (intro w hSw; (try dsimp only at hSw); go_simp; try with_reducible rfl)
      try simp only [List.getElem_toArray, List.getElem_cons_succ, List.getElem_cons_zero, Act.put, List.setIfInBounds_toArray, List.set_cons_zero, List.set_cons_succ]
      refine wpAnyH_take (i := 9) (oi := _) (v := ?_) rfl (by kernel_rfl) (by kernel_rfl) (by kernel_rfl) (fun _ _ _ h => h) (Or.inl ⟨by rfl, ?_⟩) (by assumption) ?_
      rotate_left
      · (intro w hSw; (try dsimp only at hSw); go_simp; try with_reducible rfl)
      try simp only [List.getElem_toArray, List.getElem_cons_succ, List.getElem_cons_zero, Act.put, List.setIfInBounds_toArray, List.set_cons_zero, List.set_cons_succ]
      refine wpAnyH_ready (rs := [10]) (by kernel_rfl) (by simp) ?_
      refine AllReadyH.cons (o := _) rfl (fun K hK => ?_) AllReadyH.nil
      go_simp
      (refine (example26_any _ (hd.below B5.out) (hp.below B5.out) (hk.below B5.out) (hE.below B5.out)).mono ?_; rintro e w6 ⟨rfl, hb6⟩; have X6 := Lib.hid (X5.out.below hb6); have B6 := Lib.hid (bthen B5.out hb6); clear hb6)
      clear hHeld
      refine hK.out _ _ ?_ (fun hHeld => ?_)
      · (try dsimp only); first | exact X3.out | exact X4.out | exact X5.out | exact X6.out
      clear hK K
      try simp only [List.getElem_toArray, List.getElem_cons_succ, List.getElem_cons_zero, Act.put, List.setIfInBounds_toArray, List.set_cons_zero, List.set_cons_succ]
      refine wpAnyH_take (i := 11) (oi := _) (v := ?_) rfl (by kernel_rfl) (by kernel_rfl) (by kernel_rfl) (fun _ _ _ h => h) (Or.inl ⟨by rfl, ?_⟩) (by assumption) ?_
      rotate_left
      · (intro w hSw; (try dsimp only at hSw); go_simp; try with_reducible rfl)
      try simp only [List.getElem_toArray, List.getElem_cons_succ, List.getElem_cons_zero, Act.put, List.setIfInBounds_toArray, List.set_cons_zero, List.set_cons_succ]
      refine wpAnyH_take (i := 12) (oi := _) (v := ?_) rfl (by kernel_rfl) (by kernel_rfl) (by kernel_rfl) (fun _ _ _ h => h) (Or.inl ⟨by rfl, ?_⟩) (by assumption) ?_
      rotate_left
      · (intro w hSw; (try dsimp only at hSw); go_simp; try with_reducible rfl)
      try simp only [List.getElem_toArray, List.getElem_cons_succ, List.getElem_cons_zero, Act.put, List.setIfInBounds_toArray, List.set_cons_zero, List.set_cons_succ]
      refine wpAnyH_done (by kernel_rfl) ?_ _
      go_wp2_with fail
      go_ret
      exact ⟨rfl, B6.out⟩
    · have t1 : decide ((6000 : Int) < (s.size : Int)) = true := decide_eq_true (by omega)
      clear hs
      have BL := B2
      go_wp2_with fail
      refine (example26_any _ (hd.below BL.out) (hp.below BL.out) (hk.below BL.out) (hE.below BL.out)).mono ?_
      rintro e wz ⟨rfl, hbz⟩
      have BZ := Lib.hid (bthen BL.out hbz)
      clear hbz
      go_wp2_with fail
      go_ret
      exact ⟨rfl, BZ.out⟩

set_option maxRecDepth 100000 in
/-- What the walk gives, for every argument and every world that holds the listed variables. -/
theorem contract (H : Type) (enc : TypeId × Value → H) (W : World) (base : Nat) (args : Array Value) (ds gs : List (DataW H)) (before : List MemPlace)
    (hval : ∀ (j : Nat) t v, Tryz.f5.params[j]? = some t → args[j]? = some v → Value.okWide Tryz.prog W .any base t v)
    (hW : DataW.Whole enc Tryz.prog Tryz.f5.params.toList Rows.tokenLeftsSpec.vars false W args.toList ds gs before) (hL : laidMetH Tryz.prog Rows.tokenLeftsRow.laid W) :
    Calls Tryz.prog 5 args W fun e W' => ∃ v, e = .returned v ∧ Rows.tokenLeftsSpec.post enc Tryz.prog Tryz.f5 false true false false W args v W' := by
  have hW' := hW
  obtain ⟨p, q, hA0, hV, rfl, hfz, hnd⟩ := hW
  obtain ⟨rfl, rfl⟩ := trodVars_none hV
  have hA1 : DataW.TrodAll enc Tryz.prog W 0 (fun _ => true) true Tryz.f5.params.toList args.toList ds (p ++ []) := by rw [List.append_nil]; exact hA0
  have hA : DataW.TrodAll enc Tryz.prog W 0 (fun _ => true) true Tryz.f5.params.toList args.toList ds p := hA0
  rw [Tryz.params5] at hA hval
  obtain ⟨v0, vs0, d0, ds0, p0, q0, hargs, rfl, rfl, h0, r0⟩ := trodAll_cons hA
  obtain ⟨v1, vs1, d1, ds1, p1, q1, rfl, rfl, rfl, h1, r1⟩ := trodAll_cons r0
  obtain ⟨v2, vs2, d2, ds2, p2, q2, rfl, rfl, rfl, h2, r2⟩ := trodAll_cons r1
  obtain ⟨rfl, rfl, rfl⟩ := trodAll_nil r2
  obtain rfl : args = #[v0, v1, v2] := by cases args; simp_all
  obtain ⟨A0, l0, n0, rfl, S0, u0, m0, in0⟩ := open_kys (hval 0 22 v0 rfl rfl) h0
  obtain ⟨s1, rfl, rfl, rfl, hs1⟩ := open_string Tryz.underlying9 (hval 1 9 v1 rfl rfl) h1
  have hs1 : s1.size ≤ 9223372036854775807 := by unfold maxLen at hs1; exact hs1
  obtain ⟨x2, rfl, in2⟩ := open_ex (hval 2 34 v2 rfl rfl) h2
  obtain ⟨hk, hp, hE, hd⟩ := laid_tabs hL
  refine (walk l0 A0 n0 s1 x2 W hd hp hk hE S0 m0 in0).mono fun e W' ⟨he, hb⟩ => ?_
  subst he
  exact ⟨_, rfl, law_post laidOut (by kernel_rfl) (by kernel_rfl) Tryz.underlying4 hW' rfl rfl hA1 hb⟩

set_option maxRecDepth 100000 in
theorem reads (w : World) {H : Type} (enc : TypeId × Value → H) : ∃ places, DataW.whole enc Tryz.prog w Tryz.f5.params.toList Rows.tokenLeftsSpec.vars false #[Value.slice none 0 0, .string ByteArray.empty, .agg #[.string ByteArray.empty, .string ByteArray.empty, .string ByteArray.empty, .string ByteArray.empty, .int .i64 0, .int .i64 0]].toList 8 = some ([.nil, .lit (.string []), .agg [.lit (.string []), .lit (.string []), .lit (.string []), .lit (.string []), .lit (.int .i64 0), .lit (.int .i64 0)]], [], places) :=
  ⟨[], by kernel_rfl⟩
theorem args_ok (w : World) : Input.okWideB Tryz.prog w 5 ⟨#[], #[.slice none 0 0, .string ByteArray.empty, .agg #[.string ByteArray.empty, .string ByteArray.empty, .string ByteArray.empty, .string ByteArray.empty, .int .i64 0, .int .i64 0]], []⟩ = true := by kernel_rfl
set_option maxRecDepth 100000 in
theorem lifted (os : Os) (started : os.Started) (H : Type) (enc : TypeId × Value → H) (F : Stop.Interp) :
    ReturnsInHanded {} Tryz.checked os 5 .any ((OpenSpec.ofChange Rows.tokenLeftsSpec).preRow enc Tryz.prog Tryz.f5 Rows.tokenLeftsRow.domain false Rows.tokenLeftsRow.laid) (((OpenSpec.ofChange Rows.tokenLeftsSpec).at F).post enc Tryz.prog Tryz.f5 false true false false) := by
  obtain ⟨places, hx⟩ := reads _ enc
  refine returnsInHanded_of_row (C := Tryz.checked) (s := OpenSpec.ofChange Rows.tokenLeftsSpec) own started (by kernel_rfl) Tryz.func5
    (witness_row_at (enc := enc) (C := Tryz.checked) false (World.laidAll Tryz.prog os laidList) #[.slice none 0 0, .string ByteArray.empty, .agg #[.string ByteArray.empty, .string ByteArray.empty, .string ByteArray.empty, .string ByteArray.empty, .int .i64 0, .int .i64 0]] (World.laidAll_os _ _ _) (w_hv os _) (w_hr os _) (args_ok _)
      (OpenSpec.preRow_of_cond 8 hx (by kernel_rfl) (fun k hk => by cases hk) (by kernel_rfl) (w_laid os _))) ?_
  intro W base args ds gs before hval hW _ _ _ hL _ _
  exact contract H enc W base args ds gs before hval hW hL

theorem said : Rows.TokenLeftsSaid :=
  OpenClaim.holds_of_cond 5 Tryz.f5 rfl rfl rfl rfl rfl rfl rfl ⟨rfl, rfl, rfl, rfl, rfl⟩ rfl rfl rfl rfl rfl (by kernel_rfl) Tryz.func5 (by kernel_rfl)
    (of_decide_eq_true (by kernel_rfl)) (by unfold Func.isWrapper; first | (rw [if_pos (by decide +kernel)]; kernel_rfl) | (rw [if_neg (by decide +kernel)]; exact ⟨rfl, rfl⟩))
    (fun os started H enc _ F => by rw [OpenClaim.pre_eq_preRow]; exact lifted os started H enc F)

theorem plain (f : FuncId) (fn : Func) (hf : Tryz.pinned.checked.prog.funcNamed Rows.tokenLeftsRow.func = some f) (hfn : Tryz.pinned.checked.prog.funcs[f]? = some fn) :
    true = Tryz.pinned.checked.prog.looks [] ∧ ∀ (j : Nat) t, fn.params[j]? = some t → Tryz.pinned.checked.prog.wantsStandIn t = false := by
  obtain rfl : f = 5 := Option.some.inj ((show Tryz.prog.funcNamed Rows.tokenLeftsRow.func = some 5 by kernel_rfl).symm.trans hf) |>.symm
  obtain rfl : fn = Tryz.f5 := (Option.some.inj (Tryz.func5.symm.trans hfn)).symm
  refine ⟨by kernel_rfl, fun j t ht => ?_⟩
  rw [Tryz.params5] at ht
  have hm : t ∈ [22, 9, 34] := by simpa using Array.mem_of_getElem? ht
  have hall : ([22, 9, 34].all fun u => !Tryz.prog.wantsStandIn u) = true := by kernel_rfl
  exact (show Tryz.prog.wantsStandIn t = false by simpa using List.all_eq_true.1 hall t hm)

theorem card : Rows.TokenLeftsCardSaid :=
  Claim7.holds_tied_plain_at .later [] _ _ _ _ said (fun _ h => by cases h) (by kernel_rfl) (fun _ h => by cases h) tokenLefts_row_tie rfl ⟨rfl, rfl⟩ (by kernel_rfl) rfl plain (by kernel_rfl)
end Go.Proofs.YtiiioefjdebggaaGreatDoor.tokenLefts
