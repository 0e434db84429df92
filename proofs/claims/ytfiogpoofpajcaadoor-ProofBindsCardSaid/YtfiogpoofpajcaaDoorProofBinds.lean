/- ProofBinds: for every four strings the law answers true and leaves its arguments alone; no condition. -/
import Derived.Test.YtfiogpoofpajcaaDoorCards
import Derived.Test.YtfiogpoofpajcaaDoorTie
import Derived.Test.YtfiogpoofpajcaaDoorPfLaid
namespace Go.Proofs.YtfiogpoofpajcaaDoor.proofBinds
open Go.ChangeShapes Go.WideShapes Go.ChangeAt Go.RowKit
open Go.ChangeMaps (open_string)


theorem ok_or (a b s : ByteArray) : (boundP a b s).2 = 0 ∧ bindS a b (boundP a b s).1 = s ∨ (boundP a b s).2 ≠ 0 := by
  by_cases h : (boundP a b s).2 = 0
  · exact .inl ⟨h, bound_ok (r := (boundP a b s).1) (by rw [← h])⟩
  · exact .inr h
theorem bound_small (a b s : ByteArray) (h : s.size ≤ 300) : (boundP a b s).1.size ≤ 300 := by
  have hz : (⟨#[]⟩ : ByteArray).size = 0 := rfl
  unfold boundP
  split
  · split
    · have := cutB_size s 46
      show (cutB s 46).size ≤ 300
      omega
    · show (⟨#[]⟩ : ByteArray).size ≤ 300; omega
  · show (⟨#[]⟩ : ByteArray).size ≤ 300; omega
set_option maxHeartbeats 1600000 in
theorem walk (a b c s : ByteArray) (w : World) (hd : DigOk w) (hp : PowOk w) (ha : a.size ≤ 9223372036854775807) (hb : b.size ≤ 9223372036854775807) (hc : c.size ≤ 9223372036854775807) (hs : s.size ≤ 9223372036854775807) :
    Calls Tryd.prog 5 #[.string a, .string b, .string c, .string s] w fun e w' => e = .returned (.bool true) ∧ Below w.heap.size w w' := by
  have HS := Lib.hid (strs_lit w [a, b, c, s] 9)
  have B0 := Lib.hid ((Below.refl w.heap.size w).alloc (Nat.le_refl _) (.cells #[.string a, .string b, .string c, .string s] 9))
  cases hl : longB [a, b, c, s] with
  | true =>
    go_enter Tryd.func5, Tryd.ntmps5
    go_wp2_with fail
    refine (long_any [a, b, c, s] _ _ _ HS.out (by simp)).mono ?_
    rintro e w1 ⟨rfl, rfl⟩
    rw [hl]
    clear hl
    go_wp2_with fail
    refine (live_any _ (hd.below B0.out) (hp.below B0.out)).mono ?_
    rintro e w1 ⟨rfl, hb1⟩
    go_wp2_with fail
    go_ret
    exact ⟨rfl, bthen B0.out hb1⟩
  | false =>
    have hsm := longB_small hl
    have ha3 : a.size ≤ 300 := hsm a (by simp)
    have hb3 : b.size ≤ 300 := hsm b (by simp)
    have hc3 : c.size ≤ 300 := hsm c (by simp)
    have hs3 : s.size ≤ 300 := hsm s (by simp)
    clear hsm
    have HO := Lib.hid (ok_or a b s)
    have HZ := Lib.hid (bound_small a b s hs3)
    have HBB : Hid (bindS a b c = ⟨#[]⟩ ∨ (bindS a b c ≠ ⟨#[]⟩ ∧ boundP a b (bindS a b c) = (c, 0))) := by
      by_cases h : bindS a b c = ⟨#[]⟩
      · exact .inl h
      · exact .inr ⟨h, bound_bind h⟩
    have HBZ := Lib.hid (bind_size a b c)
    go_enter Tryd.func5, Tryd.ntmps5
    go_wp2_with fail
    refine (long_any [a, b, c, s] _ _ _ HS.out (by simp)).mono ?_
    rintro e w1 ⟨rfl, rfl⟩
    rw [hl]
    clear hl
    go_wp2_with fail
    refine (bind_any a b c _ (hd.below B0.out) (hp.below B0.out) ha3 hb3 hc3).mono ?_
    rintro e w1 ⟨rfl, hb1⟩
    have B1 := Lib.hid (bthen B0.out hb1)
    clear hb1
    go_wp2_with fail
    refine (bound_any a b s _ (hd.below B1.out) (hp.below B1.out) ha3 hb3 (by omega)).mono ?_
    rintro e w2 ⟨rfl, hb2⟩
    have B2 := Lib.hid (bthen B1.out hb2)
    clear hb2
    go_wp2_with fail
    refine (rbound_any a b s _ ha3 hb3 (by omega)).mono ?_
    rintro e w3 ⟨rfl, rfl⟩
    go_wp2_with fail
    refine (rbind_any a b c _ ha3 hb3 hc3).mono ?_
    rintro e w3 ⟨rfl, rfl⟩
    generalize hr : boundP a b s = r at *
    have HR := Lib.hid hr
    clear hr
    obtain ⟨r, x⟩ := r
    have hcase : (x = 0 ∧ bindS a b r = s) ∨ x ≠ 0 := HO.out
    have HZ2 : Hid (r.size ≤ 300) := HZ.out
    clear HO HZ
    rcases hcase with ⟨rfl, hbs⟩ | hx
    · have ebs : ((bindS a b r).toList == s.toList) = true := str_eqb hbs
      clear hbs
      go_wp2_with fail
      refine (bind_any a b r _ (hd.below B2.out) (hp.below B2.out) ha3 hb3 HZ2.out).mono ?_
      rintro e w4 ⟨rfl, hb4⟩
      have B4 := Lib.hid (bthen B2.out hb4)
      clear hb4
      go_wp2_with fail
      refine (live_any _ (hd.below B4.out) (hp.below B4.out)).mono ?_
      rintro e w5 ⟨rfl, hb5⟩
      have B5 := Lib.hid (bthen B4.out hb5)
      clear hb5
      rcases HBB.out with h0 | ⟨h0, h1⟩
      · rw [h0]
        go_wp2_with fail
        go_ret
        exact ⟨rfl, B5.out⟩
      · have H1 := Lib.hid h1
        have e0 : (bindS a b c).toList.isEmpty = false := nonempty_of h0
        have hz : Hid ((bindS a b c).size ≤ 400) := by rcases HBZ.out with h | h; exact absurd h h0; show _ ≤ _; omega
        clear h0 h1
        go_wp2_with fail
        refine (bound_any a b (bindS a b c) _ (hd.below B5.out) (hp.below B5.out) ha3 hb3 hz.out).mono ?_
        rintro e w6 ⟨rfl, hb6⟩
        rw [H1.out]
        have B6 := Lib.hid (bthen B5.out hb6)
        clear hb6
        go_wp2_with fail
        go_ret
        exact ⟨rfl, B6.out⟩
    · have ebs : (x == 0) = false := by rw [beq_eq_false_iff_ne]; exact hx
      clear hx
      go_wp2_with fail
      refine (live_any _ (hd.below B2.out) (hp.below B2.out)).mono ?_
      rintro e w5 ⟨rfl, hb5⟩
      have B5 := Lib.hid (bthen B2.out hb5)
      clear hb5
      rcases HBB.out with h0 | ⟨h0, h1⟩
      · rw [h0]
        go_wp2_with fail
        go_ret
        exact ⟨rfl, B5.out⟩
      · have H1 := Lib.hid h1
        have e0 : (bindS a b c).toList.isEmpty = false := nonempty_of h0
        have hz : Hid ((bindS a b c).size ≤ 400) := by rcases HBZ.out with h | h; exact absurd h h0; show _ ≤ _; omega
        clear h0 h1
        go_wp2_with fail
        refine (bound_any a b (bindS a b c) _ (hd.below B5.out) (hp.below B5.out) ha3 hb3 hz.out).mono ?_
        rintro e w6 ⟨rfl, hb6⟩
        rw [H1.out]
        have B6 := Lib.hid (bthen B5.out hb6)
        clear hb6
        go_wp2_with fail
        go_ret
        exact ⟨rfl, B6.out⟩

/-- What the walk gives, for every argument and every world that holds the listed variables. -/
theorem contract (H : Type) (enc : TypeId × Value → H) (W : World) (base : Nat) (args : Array Value) (ds gs : List (DataW H)) (before : List MemPlace)
    (hval : ∀ (j : Nat) t v, Tryd.f5.params[j]? = some t → args[j]? = some v → Value.okWide Tryd.prog W .any base t v)
    (hW : DataW.Whole enc Tryd.prog Tryd.f5.params.toList Rows.proofBindsSpec.vars false W args.toList ds gs before) (hL : laidMetH Tryd.prog Rows.proofBindsRow.laid W) :
    Calls Tryd.prog 5 args W fun e W' => ∃ v, e = .returned v ∧ Rows.proofBindsSpec.post enc Tryd.prog Tryd.f5 false true false false W args v W' := by
  have hW' := hW
  obtain ⟨p, q, hA0, hV, rfl, hfz, hnd⟩ := hW
  obtain ⟨rfl, rfl⟩ := trodVars_none hV
  have hA1 : DataW.TrodAll enc Tryd.prog W 0 (fun _ => true) true Tryd.f5.params.toList args.toList ds (p ++ []) := by rw [List.append_nil]; exact hA0
  have hA : DataW.TrodAll enc Tryd.prog W 0 (fun _ => true) true Tryd.f5.params.toList args.toList ds p := hA0
  rw [Tryd.params5] at hA hval
  obtain ⟨v0, vs0, d0, ds0, p0, q0, hargs, rfl, rfl, h0, r0⟩ := trodAll_cons hA
  obtain ⟨v1, vs1, d1, ds1, p1, q1, rfl, rfl, rfl, h1, r1⟩ := trodAll_cons r0
  obtain ⟨v2, vs2, d2, ds2, p2, q2, rfl, rfl, rfl, h2, r2⟩ := trodAll_cons r1
  obtain ⟨v3, vs3, d3, ds3, p3, q3, rfl, rfl, rfl, h3, r3⟩ := trodAll_cons r2
  obtain ⟨rfl, rfl, rfl⟩ := trodAll_nil r3
  obtain rfl : args = #[v0, v1, v2, v3] := by cases args; simp_all
  obtain ⟨s0, rfl, rfl, rfl, hs0⟩ := open_string Tryd.underlying9 (hval 0 9 v0 rfl rfl) h0
  have hs0 : s0.size ≤ 9223372036854775807 := by unfold maxLen at hs0; exact hs0
  obtain ⟨s1, rfl, rfl, rfl, hs1⟩ := open_string Tryd.underlying9 (hval 1 9 v1 rfl rfl) h1
  have hs1 : s1.size ≤ 9223372036854775807 := by unfold maxLen at hs1; exact hs1
  obtain ⟨s2, rfl, rfl, rfl, hs2⟩ := open_string Tryd.underlying9 (hval 2 9 v2 rfl rfl) h2
  have hs2 : s2.size ≤ 9223372036854775807 := by unfold maxLen at hs2; exact hs2
  obtain ⟨s3, rfl, rfl, rfl, hs3⟩ := open_string Tryd.underlying9 (hval 3 9 v3 rfl rfl) h3
  have hs3 : s3.size ≤ 9223372036854775807 := by unfold maxLen at hs3; exact hs3
  obtain ⟨hd, hp⟩ := laid_tabs hL
  refine (walk s0 s1 s2 s3 W hd hp hs0 hs1 hs2 hs3).mono fun e W' ⟨he, hb⟩ => ?_
  subst he
  exact ⟨_, rfl, law_post laidOut (by kernel_rfl) (by kernel_rfl) Tryd.underlying4 hW' rfl rfl hA1 hb⟩

theorem laid_met (os : Os) : laidMet Tryd.prog Rows.proofBindsRow.laid ((World.doorLaid Tryd.prog 29 os).forCall (fun _ _ => 0) ⟨#[], #[.string ByteArray.empty, .string ByteArray.empty, .string ByteArray.empty, .string ByteArray.empty], []⟩).memory :=
  laidMet_of_run' 8 (by kernel_rfl) (by kernel_rfl)
theorem reads (os : Os) {H : Type} (enc : TypeId × Value → H) : ∃ places, DataW.whole enc Tryd.prog ((World.doorLaid Tryd.prog 29 os).forCall (fun _ _ => 0) ⟨#[], #[.string ByteArray.empty, .string ByteArray.empty, .string ByteArray.empty, .string ByteArray.empty], []⟩).memory Tryd.f5.params.toList Rows.proofBindsSpec.vars false #[Value.string ByteArray.empty, .string ByteArray.empty, .string ByteArray.empty, .string ByteArray.empty].toList 8 = some ([.lit (.string []), .lit (.string []), .lit (.string []), .lit (.string [])], [], places) :=
  ⟨[], by kernel_rfl⟩

set_option maxRecDepth 100000 in
theorem lifted (os : Os) (started : os.Started) (H : Type) (enc : TypeId × Value → H) (F : Stop.Interp) :
    ReturnsInHanded {} Tryd.checked os 5 .any ((OpenSpec.ofChange Rows.proofBindsSpec).preRow enc Tryd.prog Tryd.f5 Rows.proofBindsRow.domain false Rows.proofBindsRow.laid) (((OpenSpec.ofChange Rows.proofBindsSpec).at F).post enc Tryd.prog Tryd.f5 false true false false) := by
  obtain ⟨places, hx⟩ := reads os enc
  refine returnsInHanded_of_row (C := Tryd.checked) (s := OpenSpec.ofChange Rows.proofBindsSpec) own started (by kernel_rfl) Tryd.func5
    (witness_row_at (enc := enc) (C := Tryd.checked) false (World.doorLaid Tryd.prog 29 os) #[.string ByteArray.empty, .string ByteArray.empty, .string ByteArray.empty, .string ByteArray.empty] rfl (by kernel_rfl) (by kernel_rfl) (by kernel_rfl)
      (OpenSpec.preRow_of_cond 8 hx (by kernel_rfl) (fun k hk => by cases hk) (by kernel_rfl) (laid_met os))) ?_
  intro W base args ds gs before hval hW _ _ _ hL _ _
  exact contract H enc W base args ds gs before hval hW hL

theorem said : Rows.ProofBindsSaid :=
  OpenClaim.holds_of_cond 5 Tryd.f5 rfl rfl rfl rfl rfl rfl rfl ⟨rfl, rfl, rfl, rfl, rfl⟩ rfl rfl rfl rfl rfl (by kernel_rfl) Tryd.func5 (by kernel_rfl)
    (of_decide_eq_true (by kernel_rfl)) (by unfold Func.isWrapper; first | (rw [if_pos (by decide +kernel)]; kernel_rfl) | (rw [if_neg (by decide +kernel)]; exact ⟨rfl, rfl⟩))
    (fun os started H enc _ F => by rw [OpenClaim.pre_eq_preRow]; exact lifted os started H enc F)

theorem plain (f : FuncId) (fn : Func) (hf : Tryd.pinned.checked.prog.funcNamed Rows.proofBindsRow.func = some f) (hfn : Tryd.pinned.checked.prog.funcs[f]? = some fn) :
    false = Tryd.pinned.checked.prog.looks [] ∧ ∀ (j : Nat) t, fn.params[j]? = some t → Tryd.pinned.checked.prog.wantsStandIn t = false := by
  obtain rfl : f = 5 := Option.some.inj ((show Tryd.prog.funcNamed Rows.proofBindsRow.func = some 5 by kernel_rfl).symm.trans hf) |>.symm
  obtain rfl : fn = Tryd.f5 := (Option.some.inj (Tryd.func5.symm.trans hfn)).symm
  refine ⟨by kernel_rfl, fun j t ht => ?_⟩
  rw [Tryd.params5] at ht
  have hm : t ∈ [9, 9, 9, 9] := by simpa using Array.mem_of_getElem? ht
  have hall : ([9, 9, 9, 9].all fun u => !Tryd.prog.wantsStandIn u) = true := by kernel_rfl
  exact (show Tryd.prog.wantsStandIn t = false by simpa using List.all_eq_true.1 hall t hm)

theorem card : Rows.ProofBindsCardSaid :=
  Claim7.holds_tied_plain_at .later [] _ _ _ _ said (fun _ h => by cases h) (by kernel_rfl) (fun _ h => by cases h) proofBinds_row_tie rfl ⟨rfl, rfl⟩ (by kernel_rfl) rfl plain (by kernel_rfl)
end Go.Proofs.YtfiogpoofpajcaaDoor.proofBinds
