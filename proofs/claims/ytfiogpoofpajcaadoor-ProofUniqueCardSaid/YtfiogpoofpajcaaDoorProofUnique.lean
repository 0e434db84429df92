/- ProofUnique: for every two strings and every two numbers the law answers true and leaves its arguments alone; no condition. -/
import Derived.Test.YtfiogpoofpajcaaDoorCards
import Derived.Test.YtfiogpoofpajcaaDoorTie
import Derived.Test.YtfiogpoofpajcaaDoorPfLaid
namespace Go.Proofs.YtfiogpoofpajcaaDoor.proofUnique
open Go.ChangeShapes Go.WideShapes Go.ChangeAt Go.RowKit
open Go.ChangeMaps (open_string)


theorem beq_of (a b : ByteArray) : (a.toList == b.toList) = decide (a = b) := by
  rw [Bool.eq_iff_iff, beq_iff_eq, decide_eq_true_iff]
  exact ⟨toList_inj, fun h => by rw [h]⟩
/-- The two comparisons agree. -/
theorem both (a b : ByteArray) (n m : Int) : ((uniqueS a n).toList == (uniqueS b m).toList) = ((textS (uniqT a n)).toList == (textS (uniqT b m)).toList) := by
  rw [beq_of, beq_of, Bool.eq_iff_iff, decide_eq_true_iff, decide_eq_true_iff]
  exact uniq_eq a b n m
theorem uniqT_room (seed : ByteArray) (n : Int) (h0 : -9223372036854775808 ≤ n) (h1 : n ≤ 9223372036854775807) (hs : seed.size ≤ 300) : (uniqT seed n).size ≤ 9223372036854775807 := uniq_room seed n h0 h1 (by omega)
set_option maxHeartbeats 1600000 in
theorem walk (a b : ByteArray) (n m : Int) (w : World) (hd : DigOk w) (hp : PowOk w) (h0 : -9223372036854775808 ≤ n) (h1 : n ≤ 9223372036854775807) (h2 : -9223372036854775808 ≤ m) (h3 : m ≤ 9223372036854775807) (ha : a.size ≤ 9223372036854775807) (hb : b.size ≤ 9223372036854775807) :
    Calls Tryd.prog 4 #[.string a, .string b, .int .i64 n, .int .i64 m] w fun e w' => e = .returned (.bool true) ∧ Below w.heap.size w w' := by
  have HS := Lib.hid (strs_lit w [a, b] 9)
  have B0 := Lib.hid ((Below.refl w.heap.size w).alloc (Nat.le_refl _) (.cells #[.string a, .string b] 9))
  have H0 := Lib.hid h0
  have H1 := Lib.hid h1
  have H2 := Lib.hid h2
  have H3 := Lib.hid h3
  have z1 := itoaS_size n h0 h1
  have z2 := itoaS_size m h2 h3
  clear h0 h1 h2 h3
  cases hl : longB [a, b] with
  | true =>
    go_enter Tryd.func4, Tryd.ntmps4
    go_wp2_with fail
    refine (long_any [a, b] _ _ _ HS.out (by simp)).mono ?_
    rintro e w1 ⟨rfl, rfl⟩
    rw [hl]
    clear hl
    go_wp2_with fail
    refine (live_any _ (hd.below B0.out) (hp.below B0.out)).mono ?_
    rintro e w1 ⟨rfl, hb1⟩
    go_wp2_with fail
    go_ret
    exact ⟨rfl, bthen B0.out hb1⟩
  | false =>
    have hsm := longB_small hl
    have ha3 : a.size ≤ 300 := hsm a (by simp)
    have hb3 : b.size ≤ 300 := hsm b (by simp)
    clear hsm
    have RA := Lib.hid (uniqT_room a n H0.out H1.out ha3)
    have RB := Lib.hid (uniqT_room b m H2.out H3.out hb3)
    obtain ⟨WA, SA⟩ := uniq_word a n
    have HW := Lib.hid WA
    have HSA : Hid ((uniqueS a n).size = 17) := SA
    have sb : (((uniqueS a n).size : Int) != 17) = false := by rw [SA]; rfl
    have BT := Lib.hid (both a b n m)
    have HQ : Hid (itoaS n ++ ⟨#[58]⟩ ++ a = itoaS m ++ ⟨#[58]⟩ ++ b → a = b ∧ n = m) := uniqT_inj
    have ua : (uniqueS a n).size ≤ 300 := by omega
    clear WA SA
    go_enter Tryd.func4, Tryd.ntmps4
    go_wp2_with fail
    refine (long_any [a, b] _ _ _ HS.out (by simp)).mono ?_
    rintro e w1 ⟨rfl, rfl⟩
    rw [hl]
    clear hl
    go_wp2_with fail
    refine (unique_any a n _ (hd.below B0.out) (hp.below B0.out) H0.out H1.out (by omega)).mono ?_
    rintro e w1 ⟨rfl, hb1⟩
    have B1 := Lib.hid (bthen B0.out hb1)
    clear hb1
    go_wp2_with fail
    refine (unique_any b m _ (hd.below B1.out) (hp.below B1.out) H2.out H3.out (by omega)).mono ?_
    rintro e w2 ⟨rfl, hb2⟩
    have B2 := Lib.hid (bthen B1.out hb2)
    clear hb2
    go_wp2_with fail
    refine (runique_any a n _ H0.out H1.out (by omega)).mono ?_
    rintro e w3 ⟨rfl, hb3⟩
    have B3 := Lib.hid (bthen B2.out hb3)
    clear hb3
    go_wp2_with fail
    refine (word_any _ _ (by omega)).mono ?_
    rintro e w4 ⟨rfl, rfl⟩
    rw [HW.out]
    go_wp2_with fail
    refine (live_any _ (hd.below B3.out) (hp.below B3.out)).mono ?_
    rintro e w5 ⟨rfl, hb5⟩
    have B5 := Lib.hid (bthen B3.out hb5)
    clear hb5
    go_wp2_with fail
    refine (cint_any n _ H0.out H1.out (hp.below B5.out)).mono ?_
    rintro e w6 ⟨rfl, hb6⟩
    have B6 := Lib.hid (bthen B5.out hb6)
    clear hb6
    go_wp2_with fail
    refine (cint_any m _ H2.out H3.out (hp.below B6.out)).mono ?_
    rintro e w7 ⟨rfl, hb7⟩
    have B7 := Lib.hid (bthen B6.out hb7)
    clear hb7
    go_wp2_with fail
    refine (text_any (uniqT a n) _ (hd.below B7.out) RA.out).mono ?_
    rintro e w8 ⟨rfl, hb8⟩
    have B8 := Lib.hid (bthen B7.out hb8)
    clear hb8
    go_wp2_with fail
    refine (text_any (uniqT b m) _ (hd.below B8.out) RB.out).mono ?_
    rintro e w9 ⟨rfl, hb9⟩
    have B9 := Lib.hid (bthen B8.out hb9)
    clear hb9
    have bt := BT.out
    by_cases hst : itoaS n ++ ⟨#[58]⟩ ++ a = itoaS m ++ ⟨#[58]⟩ ++ b
    · have est : ((itoaS n ++ ⟨#[58]⟩ ++ a).toList == (itoaS m ++ ⟨#[58]⟩ ++ b).toList) = true := str_eqb hst
      have eab : (a.toList == b.toList) = true := str_eqb (HQ.out hst).1
      have enm : (n == m) = true := by rw [(HQ.out hst).2]; simp
      clear hst
      go_wp2_with fail
      go_ret
      exact ⟨rfl, B9.out⟩
    · have est : ((itoaS n ++ ⟨#[58]⟩ ++ a).toList == (itoaS m ++ ⟨#[58]⟩ ++ b).toList) = false := str_ne hst
      clear hst
      go_wp2_with fail
      go_ret
      exact ⟨rfl, B9.out⟩

/-- What the walk gives, for every argument and every world that holds the listed variables. -/
theorem contract (H : Type) (enc : TypeId × Value → H) (W : World) (base : Nat) (args : Array Value) (ds gs : List (DataW H)) (before : List MemPlace)
    (hval : ∀ (j : Nat) t v, Tryd.f4.params[j]? = some t → args[j]? = some v → Value.okWide Tryd.prog W .any base t v)
    (hW : DataW.Whole enc Tryd.prog Tryd.f4.params.toList Rows.proofUniqueSpec.vars false W args.toList ds gs before) (hL : laidMetH Tryd.prog Rows.proofUniqueRow.laid W) :
    Calls Tryd.prog 4 args W fun e W' => ∃ v, e = .returned v ∧ Rows.proofUniqueSpec.post enc Tryd.prog Tryd.f4 false true false false W args v W' := by
  have hW' := hW
  obtain ⟨p, q, hA0, hV, rfl, hfz, hnd⟩ := hW
  obtain ⟨rfl, rfl⟩ := trodVars_none hV
  have hA1 : DataW.TrodAll enc Tryd.prog W 0 (fun _ => true) true Tryd.f4.params.toList args.toList ds (p ++ []) := by rw [List.append_nil]; exact hA0
  have hA : DataW.TrodAll enc Tryd.prog W 0 (fun _ => true) true Tryd.f4.params.toList args.toList ds p := hA0
  rw [Tryd.params4] at hA hval
  obtain ⟨v0, vs0, d0, ds0, p0, q0, hargs, rfl, rfl, h0, r0⟩ := trodAll_cons hA
  obtain ⟨v1, vs1, d1, ds1, p1, q1, rfl, rfl, rfl, h1, r1⟩ := trodAll_cons r0
  obtain ⟨v2, vs2, d2, ds2, p2, q2, rfl, rfl, rfl, h2, r2⟩ := trodAll_cons r1
  obtain ⟨v3, vs3, d3, ds3, p3, q3, rfl, rfl, rfl, h3, r3⟩ := trodAll_cons r2
  obtain ⟨rfl, rfl, rfl⟩ := trodAll_nil r3
  obtain rfl : args = #[v0, v1, v2, v3] := by cases args; simp_all
  obtain ⟨s0, rfl, rfl, rfl, hs0⟩ := open_string Tryd.underlying9 (hval 0 9 v0 rfl rfl) h0
  have hs0 : s0.size ≤ 9223372036854775807 := by unfold maxLen at hs0; exact hs0
  obtain ⟨s1, rfl, rfl, rfl, hs1⟩ := open_string Tryd.underlying9 (hval 1 9 v1 rfl rfl) h1
  have hs1 : s1.size ≤ 9223372036854775807 := by unfold maxLen at hs1; exact hs1
  obtain ⟨n2, rfl, rfl, rfl, wn2⟩ := open_int Tryd.underlying3 (hval 2 3 v2 rfl rfl) h2
  obtain ⟨lo2, hi2⟩ := bounds_i64 wn2
  obtain ⟨n3, rfl, rfl, rfl, wn3⟩ := open_int Tryd.underlying3 (hval 3 3 v3 rfl rfl) h3
  obtain ⟨lo3, hi3⟩ := bounds_i64 wn3
  obtain ⟨hd, hp⟩ := laid_tabs hL
  refine (walk s0 s1 n2 n3 W hd hp lo2 hi2 lo3 hi3 hs0 hs1).mono fun e W' ⟨he, hb⟩ => ?_
  subst he
  exact ⟨_, rfl, law_post laidOut (by kernel_rfl) (by kernel_rfl) Tryd.underlying4 hW' rfl rfl hA1 hb⟩

theorem laid_met (os : Os) : laidMet Tryd.prog Rows.proofUniqueRow.laid ((World.doorLaid Tryd.prog 29 os).forCall (fun _ _ => 0) ⟨#[], #[.string ByteArray.empty, .string ByteArray.empty, .int .i64 0, .int .i64 0], []⟩).memory :=
  laidMet_of_run' 8 (by kernel_rfl) (by kernel_rfl)
theorem reads (os : Os) {H : Type} (enc : TypeId × Value → H) : ∃ places, DataW.whole enc Tryd.prog ((World.doorLaid Tryd.prog 29 os).forCall (fun _ _ => 0) ⟨#[], #[.string ByteArray.empty, .string ByteArray.empty, .int .i64 0, .int .i64 0], []⟩).memory Tryd.f4.params.toList Rows.proofUniqueSpec.vars false #[Value.string ByteArray.empty, .string ByteArray.empty, .int .i64 0, .int .i64 0].toList 8 = some ([.lit (.string []), .lit (.string []), .lit (.int .i64 0), .lit (.int .i64 0)], [], places) :=
  ⟨[], by kernel_rfl⟩

set_option maxRecDepth 100000 in
theorem lifted (os : Os) (started : os.Started) (H : Type) (enc : TypeId × Value → H) (F : Stop.Interp) :
    ReturnsInHanded {} Tryd.checked os 4 .any ((OpenSpec.ofChange Rows.proofUniqueSpec).preRow enc Tryd.prog Tryd.f4 Rows.proofUniqueRow.domain false Rows.proofUniqueRow.laid) (((OpenSpec.ofChange Rows.proofUniqueSpec).at F).post enc Tryd.prog Tryd.f4 false true false false) := by
  obtain ⟨places, hx⟩ := reads os enc
  refine returnsInHanded_of_row (C := Tryd.checked) (s := OpenSpec.ofChange Rows.proofUniqueSpec) own started (by kernel_rfl) Tryd.func4
    (witness_row_at (enc := enc) (C := Tryd.checked) false (World.doorLaid Tryd.prog 29 os) #[.string ByteArray.empty, .string ByteArray.empty, .int .i64 0, .int .i64 0] rfl (by kernel_rfl) (by kernel_rfl) (by kernel_rfl)
      (OpenSpec.preRow_of_cond 8 hx (by kernel_rfl) (fun k hk => by cases hk) (by kernel_rfl) (laid_met os))) ?_
  intro W base args ds gs before hval hW _ _ _ hL _ _
  exact contract H enc W base args ds gs before hval hW hL

theorem said : Rows.ProofUniqueSaid :=
  OpenClaim.holds_of_cond 4 Tryd.f4 rfl rfl rfl rfl rfl rfl rfl ⟨rfl, rfl, rfl, rfl, rfl⟩ rfl rfl rfl rfl rfl (by kernel_rfl) Tryd.func4 (by kernel_rfl)
    (of_decide_eq_true (by kernel_rfl)) (by unfold Func.isWrapper; first | (rw [if_pos (by decide +kernel)]; kernel_rfl) | (rw [if_neg (by decide +kernel)]; exact ⟨rfl, rfl⟩))
    (fun os started H enc _ F => by rw [OpenClaim.pre_eq_preRow]; exact lifted os started H enc F)

theorem plain (f : FuncId) (fn : Func) (hf : Tryd.pinned.checked.prog.funcNamed Rows.proofUniqueRow.func = some f) (hfn : Tryd.pinned.checked.prog.funcs[f]? = some fn) :
    false = Tryd.pinned.checked.prog.looks [] ∧ ∀ (j : Nat) t, fn.params[j]? = some t → Tryd.pinned.checked.prog.wantsStandIn t = false := by
  obtain rfl : f = 4 := Option.some.inj ((show Tryd.prog.funcNamed Rows.proofUniqueRow.func = some 4 by kernel_rfl).symm.trans hf) |>.symm
  obtain rfl : fn = Tryd.f4 := (Option.some.inj (Tryd.func4.symm.trans hfn)).symm
  refine ⟨by kernel_rfl, fun j t ht => ?_⟩
  rw [Tryd.params4] at ht
  have hm : t ∈ [9, 9, 3, 3] := by simpa using Array.mem_of_getElem? ht
  have hall : ([9, 9, 3, 3].all fun u => !Tryd.prog.wantsStandIn u) = true := by kernel_rfl
  exact (show Tryd.prog.wantsStandIn t = false by simpa using List.all_eq_true.1 hall t hm)

theorem card : Rows.ProofUniqueCardSaid :=
  Claim7.holds_tied_plain_at .later [] _ _ _ _ said (fun _ h => by cases h) (by kernel_rfl) (fun _ h => by cases h) proofUnique_row_tie rfl ⟨rfl, rfl⟩ (by kernel_rfl) rfl plain (by kernel_rfl)
end Go.Proofs.YtfiogpoofpajcaaDoor.proofUnique
