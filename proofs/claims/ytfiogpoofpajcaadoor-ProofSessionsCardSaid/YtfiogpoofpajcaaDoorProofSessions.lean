/- ProofSessions: for every five strings the law answers true and leaves its arguments alone; no condition. -/
import Derived.Test.YtfiogpoofpajcaaDoorCards
import Derived.Test.YtfiogpoofpajcaaDoorTie
import Derived.Test.YtfiogpoofpajcaaDoorPfLaid
namespace Go.Proofs.YtfiogpoofpajcaaDoor.proofSessions
open Go.ChangeShapes Go.WideShapes Go.ChangeAt Go.RowKit
open Go.ChangeMaps (open_string)


/-- What Bound says of a state that was bound with another secret or session. -/
theorem other_bound (a b c o t : ByteArray) (h : bindS a b c ≠ ⟨#[]⟩) :
    (boundP t o (bindS a b c)).2 = 0 ∧ codeS a b c = codeS t o c ∨ (boundP t o (bindS a b c)).2 = 4 ∨ ((boundP t o (bindS a b c)).2 = 20 ∧ codeS a b c ≠ codeS t o c) := by
  obtain ⟨hb, hc, e⟩ := bind_yes h
  rw [e]
  cases ho : plainS o with
  | false => rw [bound_noform ho]; exact .inr (.inl rfl)
  | true =>
    rw [bound_form ho hc (read_code a b c)]
    by_cases hh : codeS a b c = codeS t o c
    · rw [if_pos hh]; exact .inl ⟨rfl, hh⟩
    · rw [if_neg hh]; exact .inr (.inr ⟨rfl, hh⟩)
set_option maxHeartbeats 1600000 in
theorem walk (a b c o t : ByteArray) (w : World) (hd : DigOk w) (hp : PowOk w) :
    Calls Tryd.prog 6 #[.string a, .string b, .string c, .string o, .string t] w fun e w' => e = .returned (.bool true) ∧ Below w.heap.size w w' := by
  have HS := Lib.hid (strs_lit w [a, b, c, o, t] 9)
  have B0 := Lib.hid ((Below.refl w.heap.size w).alloc (Nat.le_refl _) (.cells #[.string a, .string b, .string c, .string o, .string t] 9))
  cases hl : longB [a, b, c, o, t] with
  | true =>
    go_enter Tryd.func6, Tryd.ntmps6
    go_wp2_with fail
    refine (long_any [a, b, c, o, t] _ _ _ HS.out (by simp)).mono ?_
    rintro e w1 ⟨rfl, rfl⟩
    rw [hl]
    clear hl
    go_wp2_with fail
    refine (live_any _ (hd.below B0.out) (hp.below B0.out)).mono ?_
    rintro e w1 ⟨rfl, hb1⟩
    go_wp2_with fail
    go_ret
    exact ⟨rfl, bthen B0.out hb1⟩
  | false =>
    have hsm := longB_small hl
    have ha3 : a.size ≤ 300 := hsm a (by simp)
    have hb3 : b.size ≤ 300 := hsm b (by simp)
    have hc3 : c.size ≤ 300 := hsm c (by simp)
    have ho3 : o.size ≤ 300 := hsm o (by simp)
    have ht3 : t.size ≤ 300 := hsm t (by simp)
    clear hsm
    have HBZ := Lib.hid (bind_size a b c)
    have HOB := Lib.hid (other_bound a b c o t)
    have HR1 := Lib.hid (code_room b c hb3 hc3)
    have HR2 := Lib.hid (code_room o c ho3 hc3)
    by_cases h0 : bindS a b c = ⟨#[]⟩
    · have HE := Lib.hid h0
      clear h0
      go_enter Tryd.func6, Tryd.ntmps6
      go_wp2_with fail
      refine (long_any [a, b, c, o, t] _ _ _ HS.out (by simp)).mono ?_
      rintro e w1 ⟨rfl, rfl⟩
      rw [hl]
      clear hl
      go_wp2_with fail
      refine (bind_any a b c _ (hd.below B0.out) (hp.below B0.out) ha3 hb3 hc3).mono ?_
      rintro e w1 ⟨rfl, hb1⟩
      rw [HE.out]
      have B4 := Lib.hid (bthen B0.out hb1)
      clear hb1
      go_wp2_with fail
      refine (live_any _ (hd.below B4.out) (hp.below B4.out)).mono ?_
      rintro e w5 ⟨rfl, hb5⟩
      have B5 := Lib.hid (bthen B4.out hb5)
      clear hb5
      go_wp2_with fail
      go_ret
      exact ⟨rfl, B5.out⟩
    · have e0 : (bindS a b c).toList.isEmpty = false := nonempty_of h0
      have hz : Hid ((bindS a b c).size ≤ 400) := by rcases HBZ.out with h | h; exact absurd h h0; show _ ≤ _; omega
      have hcs := HOB.out h0
      clear h0 HOB
      go_enter Tryd.func6, Tryd.ntmps6
      go_wp2_with fail
      refine (long_any [a, b, c, o, t] _ _ _ HS.out (by simp)).mono ?_
      rintro e w1 ⟨rfl, rfl⟩
      rw [hl]
      clear hl
      have HCS := Lib.hid hcs
      clear hcs
      go_wp2_with fail
      refine (bind_any a b c _ (hd.below B0.out) (hp.below B0.out) ha3 hb3 hc3).mono ?_
      rintro e w1 ⟨rfl, hb1⟩
      have B1 := Lib.hid (bthen B0.out hb1)
      clear hb1
      go_wp2_with fail
      refine (bound_any t o (bindS a b c) _ (hd.below B1.out) (hp.below B1.out) ht3 ho3 hz.out).mono ?_
      rintro e w2 ⟨rfl, hb2⟩
      have B2 := Lib.hid (bthen B1.out hb2)
      clear hb2
      generalize hr : boundP t o (bindS a b c) = r at *
      have HR := Lib.hid hr
      clear hr
      obtain ⟨r, x⟩ := r
      go_wp2_with fail
      refine (mac_any a _ _ (hd.below B2.out) (hp.below B2.out) (by omega) HR1.out).mono ?_
      rintro e w3 ⟨rfl, hb3⟩
      have B3 := Lib.hid (bthen B2.out hb3)
      clear hb3
      go_wp2_with fail
      refine (mac_any t _ _ (hd.below B3.out) (hp.below B3.out) (by omega) HR2.out).mono ?_
      rintro e w4 ⟨rfl, hb4⟩
      have B4 := Lib.hid (bthen B3.out hb4)
      clear hb4
      have hcs : x = 0 ∧ codeS a b c = codeS t o c ∨ x = 4 ∨ (x = 20 ∧ codeS a b c ≠ codeS t o c) := HCS.out
      clear HCS
      rcases hcs with ⟨rfl, hcc⟩ | rfl | ⟨rfl, hcc⟩
      · have ecc : ((macS a (b ++ ⟨#[124]⟩ ++ c)).toList == (macS t (o ++ ⟨#[124]⟩ ++ c)).toList) = true := str_eqb hcc
        clear hcc
        go_wp2_with fail
        refine (live_any _ (hd.below B4.out) (hp.below B4.out)).mono ?_
        rintro e w5 ⟨rfl, hb5⟩
        have B5 := Lib.hid (bthen B4.out hb5)
        clear hb5
        go_wp2_with fail
        go_ret
        exact ⟨rfl, B5.out⟩
      · go_wp2_with fail
        refine (live_any _ (hd.below B4.out) (hp.below B4.out)).mono ?_
        rintro e w5 ⟨rfl, hb5⟩
        have B5 := Lib.hid (bthen B4.out hb5)
        clear hb5
        go_wp2_with fail
        go_ret
        exact ⟨rfl, B5.out⟩
      · have ecc : ((macS a (b ++ ⟨#[124]⟩ ++ c)).toList == (macS t (o ++ ⟨#[124]⟩ ++ c)).toList) = false := str_ne hcc
        clear hcc
        go_wp2_with fail
        refine (live_any _ (hd.below B4.out) (hp.below B4.out)).mono ?_
        rintro e w5 ⟨rfl, hb5⟩
        have B5 := Lib.hid (bthen B4.out hb5)
        clear hb5
        go_wp2_with fail
        go_ret
        exact ⟨rfl, B5.out⟩

/-- What the walk gives, for every argument and every world that holds the listed variables. -/
theorem contract (H : Type) (enc : TypeId × Value → H) (W : World) (base : Nat) (args : Array Value) (ds gs : List (DataW H)) (before : List MemPlace)
    (hval : ∀ (j : Nat) t v, Tryd.f6.params[j]? = some t → args[j]? = some v → Value.okWide Tryd.prog W .any base t v)
    (hW : DataW.Whole enc Tryd.prog Tryd.f6.params.toList Rows.proofSessionsSpec.vars false W args.toList ds gs before) (hL : laidMetH Tryd.prog Rows.proofSessionsRow.laid W) :
    Calls Tryd.prog 6 args W fun e W' => ∃ v, e = .returned v ∧ Rows.proofSessionsSpec.post enc Tryd.prog Tryd.f6 false true false false W args v W' := by
  have hW' := hW
  obtain ⟨p, q, hA0, hV, rfl, hfz, hnd⟩ := hW
  obtain ⟨rfl, rfl⟩ := trodVars_none hV
  have hA1 : DataW.TrodAll enc Tryd.prog W 0 (fun _ => true) true Tryd.f6.params.toList args.toList ds (p ++ []) := by rw [List.append_nil]; exact hA0
  have hA : DataW.TrodAll enc Tryd.prog W 0 (fun _ => true) true Tryd.f6.params.toList args.toList ds p := hA0
  rw [Tryd.params6] at hA hval
  obtain ⟨v0, vs0, d0, ds0, p0, q0, hargs, rfl, rfl, h0, r0⟩ := trodAll_cons hA
  obtain ⟨v1, vs1, d1, ds1, p1, q1, rfl, rfl, rfl, h1, r1⟩ := trodAll_cons r0
  obtain ⟨v2, vs2, d2, ds2, p2, q2, rfl, rfl, rfl, h2, r2⟩ := trodAll_cons r1
  obtain ⟨v3, vs3, d3, ds3, p3, q3, rfl, rfl, rfl, h3, r3⟩ := trodAll_cons r2
  obtain ⟨v4, vs4, d4, ds4, p4, q4, rfl, rfl, rfl, h4, r4⟩ := trodAll_cons r3
  obtain ⟨rfl, rfl, rfl⟩ := trodAll_nil r4
  obtain rfl : args = #[v0, v1, v2, v3, v4] := by cases args; simp_all
  obtain ⟨s0, rfl, rfl, rfl, hs0⟩ := open_string Tryd.underlying9 (hval 0 9 v0 rfl rfl) h0
  have hs0 : s0.size ≤ 9223372036854775807 := by unfold maxLen at hs0; exact hs0
  obtain ⟨s1, rfl, rfl, rfl, hs1⟩ := open_string Tryd.underlying9 (hval 1 9 v1 rfl rfl) h1
  have hs1 : s1.size ≤ 9223372036854775807 := by unfold maxLen at hs1; exact hs1
  obtain ⟨s2, rfl, rfl, rfl, hs2⟩ := open_string Tryd.underlying9 (hval 2 9 v2 rfl rfl) h2
  have hs2 : s2.size ≤ 9223372036854775807 := by unfold maxLen at hs2; exact hs2
  obtain ⟨s3, rfl, rfl, rfl, hs3⟩ := open_string Tryd.underlying9 (hval 3 9 v3 rfl rfl) h3
  have hs3 : s3.size ≤ 9223372036854775807 := by unfold maxLen at hs3; exact hs3
  obtain ⟨s4, rfl, rfl, rfl, hs4⟩ := open_string Tryd.underlying9 (hval 4 9 v4 rfl rfl) h4
  have hs4 : s4.size ≤ 9223372036854775807 := by unfold maxLen at hs4; exact hs4
  obtain ⟨hd, hp⟩ := laid_tabs hL
  refine (walk s0 s1 s2 s3 s4 W hd hp).mono fun e W' ⟨he, hb⟩ => ?_
  subst he
  exact ⟨_, rfl, law_post laidOut (by kernel_rfl) (by kernel_rfl) Tryd.underlying4 hW' rfl rfl hA1 hb⟩

theorem laid_met (os : Os) : laidMet Tryd.prog Rows.proofSessionsRow.laid ((World.doorLaid Tryd.prog 29 os).forCall (fun _ _ => 0) ⟨#[], #[.string ByteArray.empty, .string ByteArray.empty, .string ByteArray.empty, .string ByteArray.empty, .string ByteArray.empty], []⟩).memory :=
  laidMet_of_run' 8 (by kernel_rfl) (by kernel_rfl)
theorem reads (os : Os) {H : Type} (enc : TypeId × Value → H) : ∃ places, DataW.whole enc Tryd.prog ((World.doorLaid Tryd.prog 29 os).forCall (fun _ _ => 0) ⟨#[], #[.string ByteArray.empty, .string ByteArray.empty, .string ByteArray.empty, .string ByteArray.empty, .string ByteArray.empty], []⟩).memory Tryd.f6.params.toList Rows.proofSessionsSpec.vars false #[Value.string ByteArray.empty, .string ByteArray.empty, .string ByteArray.empty, .string ByteArray.empty, .string ByteArray.empty].toList 8 = some ([.lit (.string []), .lit (.string []), .lit (.string []), .lit (.string []), .lit (.string [])], [], places) :=
  ⟨[], by kernel_rfl⟩

set_option maxRecDepth 100000 in
theorem lifted (os : Os) (started : os.Started) (H : Type) (enc : TypeId × Value → H) (F : Stop.Interp) :
    ReturnsInHanded {} Tryd.checked os 6 .any ((OpenSpec.ofChange Rows.proofSessionsSpec).preRow enc Tryd.prog Tryd.f6 Rows.proofSessionsRow.domain false Rows.proofSessionsRow.laid) (((OpenSpec.ofChange Rows.proofSessionsSpec).at F).post enc Tryd.prog Tryd.f6 false true false false) := by
  obtain ⟨places, hx⟩ := reads os enc
  refine returnsInHanded_of_row (C := Tryd.checked) (s := OpenSpec.ofChange Rows.proofSessionsSpec) own started (by kernel_rfl) Tryd.func6
    (witness_row_at (enc := enc) (C := Tryd.checked) false (World.doorLaid Tryd.prog 29 os) #[.string ByteArray.empty, .string ByteArray.empty, .string ByteArray.empty, .string ByteArray.empty, .string ByteArray.empty] rfl (by kernel_rfl) (by kernel_rfl) (by kernel_rfl)
      (OpenSpec.preRow_of_cond 8 hx (by kernel_rfl) (fun k hk => by cases hk) (by kernel_rfl) (laid_met os))) ?_
  intro W base args ds gs before hval hW _ _ _ hL _ _
  exact contract H enc W base args ds gs before hval hW hL

theorem said : Rows.ProofSessionsSaid :=
  OpenClaim.holds_of_cond 6 Tryd.f6 rfl rfl rfl rfl rfl rfl rfl ⟨rfl, rfl, rfl, rfl, rfl⟩ rfl rfl rfl rfl rfl (by kernel_rfl) Tryd.func6 (by kernel_rfl)
    (of_decide_eq_true (by kernel_rfl)) (by unfold Func.isWrapper; first | (rw [if_pos (by decide +kernel)]; kernel_rfl) | (rw [if_neg (by decide +kernel)]; exact ⟨rfl, rfl⟩))
    (fun os started H enc _ F => by rw [OpenClaim.pre_eq_preRow]; exact lifted os started H enc F)

theorem plain (f : FuncId) (fn : Func) (hf : Tryd.pinned.checked.prog.funcNamed Rows.proofSessionsRow.func = some f) (hfn : Tryd.pinned.checked.prog.funcs[f]? = some fn) :
    false = Tryd.pinned.checked.prog.looks [] ∧ ∀ (j : Nat) t, fn.params[j]? = some t → Tryd.pinned.checked.prog.wantsStandIn t = false := by
  obtain rfl : f = 6 := Option.some.inj ((show Tryd.prog.funcNamed Rows.proofSessionsRow.func = some 6 by kernel_rfl).symm.trans hf) |>.symm
  obtain rfl : fn = Tryd.f6 := (Option.some.inj (Tryd.func6.symm.trans hfn)).symm
  refine ⟨by kernel_rfl, fun j t ht => ?_⟩
  rw [Tryd.params6] at ht
  have hm : t ∈ [9, 9, 9, 9, 9] := by simpa using Array.mem_of_getElem? ht
  have hall : ([9, 9, 9, 9, 9].all fun u => !Tryd.prog.wantsStandIn u) = true := by kernel_rfl
  exact (show Tryd.prog.wantsStandIn t = false by simpa using List.all_eq_true.1 hall t hm)

theorem card : Rows.ProofSessionsCardSaid :=
  Claim7.holds_tied_plain_at .later [] _ _ _ _ said (fun _ h => by cases h) (by kernel_rfl) (fun _ h => by cases h) proofSessions_row_tie rfl ⟨rfl, rfl⟩ (by kernel_rfl) rfl plain (by kernel_rfl)
end Go.Proofs.YtfiogpoofpajcaaDoor.proofSessions
