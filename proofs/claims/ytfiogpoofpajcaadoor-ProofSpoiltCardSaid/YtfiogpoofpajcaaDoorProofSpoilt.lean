/- ProofSpoilt: for every three strings and every two numbers the law answers true and leaves its arguments alone; no condition. -/
import Derived.IntWalk
import Derived.BigQuiet
import Derived.Deep.QuietTactic
import Derived.Test.YtfiogpoofpajcaaDoorCards
import Derived.Test.YtfiogpoofpajcaaDoorTie
import Derived.Test.YtfiogpoofpajcaaDoorPfLaid
namespace Go.Proofs.YtfiogpoofpajcaaDoor.proofSpoilt
open Go.ChangeShapes Go.WideShapes Go.ChangeAt Go.RowKit
open Go.ChangeMaps (open_string)


theorem spoilt (a b c : ByteArray) (k d : Nat) (hk : k < 16) (h : bindS a b c ≠ ⟨#[]⟩) :
    (bindS a b c).extract 0 (c.size + 1 + k) ++ ⟨#[hexDig d]⟩ ++ (bindS a b c).extract (c.size + 1 + k + 1) (bindS a b c).size = c ++ ⟨#[46]⟩ ++ spoil (macP a ++ textS (macP a ++ (b ++ ⟨#[124]⟩ ++ c))) k d := by
  obtain ⟨hb, hc, e⟩ := bind_yes h
  have h2 : (c ++ ⟨#[46]⟩).size = c.size + 1 := by rw [ByteArray.size_append]; rfl
  have := cut_join (c ++ ⟨#[46]⟩) (codeS a b c) (code_size a b c) k hk (hexDig d)
  rw [h2] at this
  rw [e, this]
  rfl
theorem spoilt_bound (a b c : ByteArray) (k d : Nat) (hk : k < 16) (hd : d < 16) (h : bindS a b c ≠ ⟨#[]⟩) (T : ByteArray)
    (hT : (bindS a b c).extract 0 (c.size + 1 + k) ++ ⟨#[hexDig d]⟩ ++ (bindS a b c).extract (c.size + 1 + k + 1) (bindS a b c).size = T) :
    (T = bindS a b c ∧ boundP a b T = (c, 0)) ∨ (T ≠ bindS a b c ∧ boundP a b T = (⟨#[]⟩, 20)) := by
  obtain ⟨hb, hc, e⟩ := bind_yes h
  rw [spoilt a b c k d hk h] at hT
  rw [← hT, bound_form hb hc (spoil_read _ k d hk hd), e]
  by_cases hh : spoil (macP a ++ textS (macP a ++ (b ++ ⟨#[124]⟩ ++ c))) k d = codeS a b c
  · rw [if_pos hh, hh]; exact .inl ⟨rfl, rfl⟩
  · rw [if_neg hh]; exact .inr ⟨fun hx => hh (app_right_inj hx), rfl⟩
set_option maxHeartbeats 1600000 in
theorem walk (a b c : ByteArray) (n m : Int) (w : World) (hd : DigOk w) (hp : PowOk w) :
    Calls Tryd.prog 7 #[.string a, .string b, .string c, .int .i64 n, .int .i64 m] w fun e w' => e = .returned (.bool true) ∧ Below w.heap.size w w' := by
  have HS := Lib.hid (strs_lit w [a, b, c] 9)
  have B0 := Lib.hid ((Below.refl w.heap.size w).alloc (Nat.le_refl _) (.cells #[.string a, .string b, .string c] 9))
  have hcs : longB [a, b, c] = true ∨ (longB [a, b, c] = false ∧ n < 0) ∨ (longB [a, b, c] = false ∧ 0 ≤ n ∧ 15 < n) ∨ (longB [a, b, c] = false ∧ 0 ≤ n ∧ n ≤ 15 ∧ m < 0) ∨ (longB [a, b, c] = false ∧ 0 ≤ n ∧ n ≤ 15 ∧ 0 ≤ m ∧ 15 < m) ∨ (longB [a, b, c] = false ∧ 0 ≤ n ∧ n ≤ 15 ∧ 0 ≤ m ∧ m ≤ 15) := by
    cases longB [a, b, c] <;> simp <;> omega
  rcases hcs with hl | ⟨hl, h1⟩ | ⟨hl, h1, h2⟩ | ⟨hl, h1, h2, h3⟩ | ⟨hl, h1, h2, h3, h4⟩ | ⟨hl, h1, h2, h3, h4⟩
  · go_enter Tryd.func7, Tryd.ntmps7
    go_wp2_with fail
    refine (long_any [a, b, c] _ _ _ HS.out (by simp)).mono ?_
    rintro e w1 ⟨rfl, rfl⟩
    rw [hl]
    clear hl
    go_wp2_with fail
    refine (live_any _ (hd.below B0.out) (hp.below B0.out)).mono ?_
    rintro e w1 ⟨rfl, hb1⟩
    go_wp2_with fail
    go_ret
    exact ⟨rfl, bthen B0.out hb1⟩
  · go_enter Tryd.func7, Tryd.ntmps7
    go_wp2_with fail
    refine (long_any [a, b, c] _ _ _ HS.out (by simp)).mono ?_
    rintro e w1 ⟨rfl, rfl⟩
    rw [hl]
    clear hl
    go_wp2_with fail
    refine (live_any _ (hd.below B0.out) (hp.below B0.out)).mono ?_
    rintro e w1 ⟨rfl, hb1⟩
    go_wp2_with fail
    go_ret
    exact ⟨rfl, bthen B0.out hb1⟩
  · go_enter Tryd.func7, Tryd.ntmps7
    go_wp2_with fail
    refine (long_any [a, b, c] _ _ _ HS.out (by simp)).mono ?_
    rintro e w1 ⟨rfl, rfl⟩
    rw [hl]
    clear hl
    go_wp2_with fail
    refine (live_any _ (hd.below B0.out) (hp.below B0.out)).mono ?_
    rintro e w1 ⟨rfl, hb1⟩
    go_wp2_with fail
    go_ret
    exact ⟨rfl, bthen B0.out hb1⟩
  · go_enter Tryd.func7, Tryd.ntmps7
    go_wp2_with fail
    refine (long_any [a, b, c] _ _ _ HS.out (by simp)).mono ?_
    rintro e w1 ⟨rfl, rfl⟩
    rw [hl]
    clear hl
    go_wp2_with fail
    refine (live_any _ (hd.below B0.out) (hp.below B0.out)).mono ?_
    rintro e w1 ⟨rfl, hb1⟩
    go_wp2_with fail
    go_ret
    exact ⟨rfl, bthen B0.out hb1⟩
  · go_enter Tryd.func7, Tryd.ntmps7
    go_wp2_with fail
    refine (long_any [a, b, c] _ _ _ HS.out (by simp)).mono ?_
    rintro e w1 ⟨rfl, rfl⟩
    rw [hl]
    clear hl
    go_wp2_with fail
    refine (live_any _ (hd.below B0.out) (hp.below B0.out)).mono ?_
    rintro e w1 ⟨rfl, hb1⟩
    go_wp2_with fail
    go_ret
    exact ⟨rfl, bthen B0.out hb1⟩
  · obtain ⟨n, rfl⟩ := Int.eq_ofNat_of_zero_le h1
    obtain ⟨m, rfl⟩ := Int.eq_ofNat_of_zero_le h3
    have hsm := longB_small hl
    have ha3 : a.size ≤ 300 := hsm a (by simp)
    have hb3 : b.size ≤ 300 := hsm b (by simp)
    have hc3 : c.size ≤ 300 := hsm c (by simp)
    clear hsm
    have hn : n < 16 := by omega
    have hm : m < 16 := by omega
    have hdg := digit_extract m hm
    have HBZ := Lib.hid (bind_size a b c)
    by_cases h0 : bindS a b c = ⟨#[]⟩
    · have HE := Lib.hid h0
      clear h0
      go_enter Tryd.func7, Tryd.ntmps7
      go_wp2_with fail
      refine (long_any [a, b, c] _ _ _ HS.out (by simp)).mono ?_
      rintro e w1 ⟨rfl, rfl⟩
      rw [hl]
      clear hl
      go_wp2_with fail
      refine (bind_any a b c _ (hd.below B0.out) (hp.below B0.out) ha3 hb3 hc3).mono ?_
      rintro e w1 ⟨rfl, hb1⟩
      rw [HE.out]
      have B4 := Lib.hid (bthen B0.out hb1)
      clear hb1
      go_wp2_with fail
      refine (live_any _ (hd.below B4.out) (hp.below B4.out)).mono ?_
      rintro e w5 ⟨rfl, hb5⟩
      have B5 := Lib.hid (bthen B4.out hb5)
      clear hb5
      go_wp2_with fail
      go_ret
      exact ⟨rfl, B5.out⟩
    · have hsz : (bindS a b c).size = c.size + 17 := by rcases HBZ.out with h | h; exact absurd h h0; exact h
      have HSP := Lib.hid (spoilt_bound a b c n m hn hm h0)
      clear h0 h1 h2 h3 h4 HBZ
      go_enter Tryd.func7, Tryd.ntmps7
      go_wp2_with fail
      refine (long_any [a, b, c] _ _ _ HS.out (by simp)).mono ?_
      rintro e w1 ⟨rfl, rfl⟩
      rw [hl]
      clear hl
      have HSZ := Lib.hid hsz
      clear hsz
      go_wp2_with fail
      refine (bind_any a b c _ (hd.below B0.out) (hp.below B0.out) ha3 hb3 hc3).mono ?_
      rintro e w1 ⟨rfl, hb1⟩
      have B1 := Lib.hid (bthen B0.out hb1)
      clear hb1
      generalize hS : bindS a b c = S at *
      have HSS := Lib.hid hS
      clear hS
      obtain ⟨k, HK⟩ : ∃ k, Hid (c.size + 1 + n = k) := ⟨_, Lib.hid rfl⟩
      have hk1 : k < S.size := by have := HK.out; have := HSZ.out; omega
      have hs17 : 17 ≤ S.size := by have := HSZ.out; omega
      have hs400 : S.size ≤ 400 := by have := HSZ.out; omega
      have ek : (S.size : Int) - 16 + (n : Int) = (k : Int) := by have := HK.out; have := HSZ.out; omega
      go_wp2_with fail
      have hw1 : IntKind.i64.wrap ((k : Int) + 1) = (k : Int) + 1 := IntWalk.i64_in _ (by omega)
      have z1 : (S.extract 0 k).size = k := by simp [ByteArray.size_extract]; omega
      have z2 : (S.extract (k + 1) S.size).size ≤ 400 := by simp [ByteArray.size_extract]; omega
      go_quiet (fail)
      go_wp2_with fail
      have B2 := Lib.hid (below_drewN B1.out nq)
      obtain ⟨T, HT⟩ : ∃ T, Hid (S.extract 0 k ++ ⟨#[hexDig m]⟩ ++ S.extract (k + 1) S.size = T) := ⟨_, Lib.hid rfl⟩
      have hTz : Hid (T.size ≤ 400) := by
        show _ ≤ _
        rw [← HT.out, ByteArray.size_append, ByteArray.size_append, z1]
        have e1 : (⟨#[hexDig m]⟩ : ByteArray).size = 1 := rfl
        have e2 : (S.extract (k + 1) S.size).size ≤ S.size - (k + 1) := by simp [ByteArray.size_extract]
        omega
      have HSC := Lib.hid (HSP.out T (by rw [HK.out]; exact HT.out))
      clear hw1 z1 z2 ek hk1 hs17 hdg HSP
      rw [HT.out]
      refine (bound_any a b T _ (hd.below B2.out) (hp.below B2.out) ha3 hb3 hTz.out).mono ?_
      rintro e w3 ⟨rfl, hb3'⟩
      have B4 := Lib.hid (bthen B2.out hb3')
      clear hb3'
      rcases HSC.out with ⟨h1, h2⟩ | ⟨h1, h2⟩
      · rw [h2]
        have est : (T.toList == S.toList) = true := str_eqb h1
        clear h1 h2 HSC
        go_wp2_with fail
        refine (live_any _ (hd.below B4.out) (hp.below B4.out)).mono ?_
        rintro e w5 ⟨rfl, hb5⟩
        have B5 := Lib.hid (bthen B4.out hb5)
        clear hb5
        go_wp2_with fail
        go_ret
        exact ⟨rfl, B5.out⟩
      · rw [h2]
        have est : (T.toList == S.toList) = false := str_ne h1
        clear h1 h2 HSC
        go_wp2_with fail
        refine (live_any _ (hd.below B4.out) (hp.below B4.out)).mono ?_
        rintro e w5 ⟨rfl, hb5⟩
        have B5 := Lib.hid (bthen B4.out hb5)
        clear hb5
        go_wp2_with fail
        go_ret
        exact ⟨rfl, B5.out⟩

/-- What the walk gives, for every argument and every world that holds the listed variables. -/
theorem contract (H : Type) (enc : TypeId × Value → H) (W : World) (base : Nat) (args : Array Value) (ds gs : List (DataW H)) (before : List MemPlace)
    (hval : ∀ (j : Nat) t v, Tryd.f7.params[j]? = some t → args[j]? = some v → Value.okWide Tryd.prog W .any base t v)
    (hW : DataW.Whole enc Tryd.prog Tryd.f7.params.toList Rows.proofSpoiltSpec.vars false W args.toList ds gs before) (hL : laidMetH Tryd.prog Rows.proofSpoiltRow.laid W) :
    Calls Tryd.prog 7 args W fun e W' => ∃ v, e = .returned v ∧ Rows.proofSpoiltSpec.post enc Tryd.prog Tryd.f7 false true false false W args v W' := by
  have hW' := hW
  obtain ⟨p, q, hA0, hV, rfl, hfz, hnd⟩ := hW
  obtain ⟨rfl, rfl⟩ := trodVars_none hV
  have hA1 : DataW.TrodAll enc Tryd.prog W 0 (fun _ => true) true Tryd.f7.params.toList args.toList ds (p ++ []) := by rw [List.append_nil]; exact hA0
  have hA : DataW.TrodAll enc Tryd.prog W 0 (fun _ => true) true Tryd.f7.params.toList args.toList ds p := hA0
  rw [Tryd.params7] at hA hval
  obtain ⟨v0, vs0, d0, ds0, p0, q0, hargs, rfl, rfl, h0, r0⟩ := trodAll_cons hA
  obtain ⟨v1, vs1, d1, ds1, p1, q1, rfl, rfl, rfl, h1, r1⟩ := trodAll_cons r0
  obtain ⟨v2, vs2, d2, ds2, p2, q2, rfl, rfl, rfl, h2, r2⟩ := trodAll_cons r1
  obtain ⟨v3, vs3, d3, ds3, p3, q3, rfl, rfl, rfl, h3, r3⟩ := trodAll_cons r2
  obtain ⟨v4, vs4, d4, ds4, p4, q4, rfl, rfl, rfl, h4, r4⟩ := trodAll_cons r3
  obtain ⟨rfl, rfl, rfl⟩ := trodAll_nil r4
  obtain rfl : args = #[v0, v1, v2, v3, v4] := by cases args; simp_all
  obtain ⟨s0, rfl, rfl, rfl, hs0⟩ := open_string Tryd.underlying9 (hval 0 9 v0 rfl rfl) h0
  have hs0 : s0.size ≤ 9223372036854775807 := by unfold maxLen at hs0; exact hs0
  obtain ⟨s1, rfl, rfl, rfl, hs1⟩ := open_string Tryd.underlying9 (hval 1 9 v1 rfl rfl) h1
  have hs1 : s1.size ≤ 9223372036854775807 := by unfold maxLen at hs1; exact hs1
  obtain ⟨s2, rfl, rfl, rfl, hs2⟩ := open_string Tryd.underlying9 (hval 2 9 v2 rfl rfl) h2
  have hs2 : s2.size ≤ 9223372036854775807 := by unfold maxLen at hs2; exact hs2
  obtain ⟨n3, rfl, rfl, rfl, wn3⟩ := open_int Tryd.underlying3 (hval 3 3 v3 rfl rfl) h3
  obtain ⟨lo3, hi3⟩ := bounds_i64 wn3
  obtain ⟨n4, rfl, rfl, rfl, wn4⟩ := open_int Tryd.underlying3 (hval 4 3 v4 rfl rfl) h4
  obtain ⟨lo4, hi4⟩ := bounds_i64 wn4
  obtain ⟨hd, hp⟩ := laid_tabs hL
  refine (walk s0 s1 s2 n3 n4 W hd hp).mono fun e W' ⟨he, hb⟩ => ?_
  subst he
  exact ⟨_, rfl, law_post laidOut (by kernel_rfl) (by kernel_rfl) Tryd.underlying4 hW' rfl rfl hA1 hb⟩

theorem laid_met (os : Os) : laidMet Tryd.prog Rows.proofSpoiltRow.laid ((World.doorLaid Tryd.prog 29 os).forCall (fun _ _ => 0) ⟨#[], #[.string ByteArray.empty, .string ByteArray.empty, .string ByteArray.empty, .int .i64 0, .int .i64 0], []⟩).memory :=
  laidMet_of_run' 8 (by kernel_rfl) (by kernel_rfl)
theorem reads (os : Os) {H : Type} (enc : TypeId × Value → H) : ∃ places, DataW.whole enc Tryd.prog ((World.doorLaid Tryd.prog 29 os).forCall (fun _ _ => 0) ⟨#[], #[.string ByteArray.empty, .string ByteArray.empty, .string ByteArray.empty, .int .i64 0, .int .i64 0], []⟩).memory Tryd.f7.params.toList Rows.proofSpoiltSpec.vars false #[Value.string ByteArray.empty, .string ByteArray.empty, .string ByteArray.empty, .int .i64 0, .int .i64 0].toList 8 = some ([.lit (.string []), .lit (.string []), .lit (.string []), .lit (.int .i64 0), .lit (.int .i64 0)], [], places) :=
  ⟨[], by kernel_rfl⟩

set_option maxRecDepth 100000 in
theorem lifted (os : Os) (started : os.Started) (H : Type) (enc : TypeId × Value → H) (F : Stop.Interp) :
    ReturnsInHanded {} Tryd.checked os 7 .any ((OpenSpec.ofChange Rows.proofSpoiltSpec).preRow enc Tryd.prog Tryd.f7 Rows.proofSpoiltRow.domain false Rows.proofSpoiltRow.laid) (((OpenSpec.ofChange Rows.proofSpoiltSpec).at F).post enc Tryd.prog Tryd.f7 false true false false) := by
  obtain ⟨places, hx⟩ := reads os enc
  refine returnsInHanded_of_row (C := Tryd.checked) (s := OpenSpec.ofChange Rows.proofSpoiltSpec) own started (by kernel_rfl) Tryd.func7
    (witness_row_at (enc := enc) (C := Tryd.checked) false (World.doorLaid Tryd.prog 29 os) #[.string ByteArray.empty, .string ByteArray.empty, .string ByteArray.empty, .int .i64 0, .int .i64 0] rfl (by kernel_rfl) (by kernel_rfl) (by kernel_rfl)
      (OpenSpec.preRow_of_cond 8 hx (by kernel_rfl) (fun k hk => by cases hk) (by kernel_rfl) (laid_met os))) ?_
  intro W base args ds gs before hval hW _ _ _ hL _ _
  exact contract H enc W base args ds gs before hval hW hL

theorem said : Rows.ProofSpoiltSaid :=
  OpenClaim.holds_of_cond 7 Tryd.f7 rfl rfl rfl rfl rfl rfl rfl ⟨rfl, rfl, rfl, rfl, rfl⟩ rfl rfl rfl rfl rfl (by kernel_rfl) Tryd.func7 (by kernel_rfl)
    (of_decide_eq_true (by kernel_rfl)) (by unfold Func.isWrapper; first | (rw [if_pos (by decide +kernel)]; kernel_rfl) | (rw [if_neg (by decide +kernel)]; exact ⟨rfl, rfl⟩))
    (fun os started H enc _ F => by rw [OpenClaim.pre_eq_preRow]; exact lifted os started H enc F)

theorem plain (f : FuncId) (fn : Func) (hf : Tryd.pinned.checked.prog.funcNamed Rows.proofSpoiltRow.func = some f) (hfn : Tryd.pinned.checked.prog.funcs[f]? = some fn) :
    false = Tryd.pinned.checked.prog.looks [] ∧ ∀ (j : Nat) t, fn.params[j]? = some t → Tryd.pinned.checked.prog.wantsStandIn t = false := by
  obtain rfl : f = 7 := Option.some.inj ((show Tryd.prog.funcNamed Rows.proofSpoiltRow.func = some 7 by kernel_rfl).symm.trans hf) |>.symm
  obtain rfl : fn = Tryd.f7 := (Option.some.inj (Tryd.func7.symm.trans hfn)).symm
  refine ⟨by kernel_rfl, fun j t ht => ?_⟩
  rw [Tryd.params7] at ht
  have hm : t ∈ [9, 9, 9, 3, 3] := by simpa using Array.mem_of_getElem? ht
  have hall : ([9, 9, 9, 3, 3].all fun u => !Tryd.prog.wantsStandIn u) = true := by kernel_rfl
  exact (show Tryd.prog.wantsStandIn t = false by simpa using List.all_eq_true.1 hall t hm)

theorem card : Rows.ProofSpoiltCardSaid :=
  Claim7.holds_tied_plain_at .later [] _ _ _ _ said (fun _ h => by cases h) (by kernel_rfl) (fun _ h => by cases h) proofSpoilt_row_tie rfl ⟨rfl, rfl⟩ (by kernel_rfl) rfl plain (by kernel_rfl)
end Go.Proofs.YtfiogpoofpajcaaDoor.proofSpoilt
