/- ProofAccepts: for every method and every two strings the law answers true and leaves its arguments alone; no condition. -/
import Derived.Test.YtfiogpoofpajcaaDoorCards
import Derived.Test.YtfiogpoofpajcaaDoorTie
import Derived.Test.YtfiogpoofpajcaaDoorPfLaid
import Derived.Test.YtfiogpoofpajcaaDoorCodR64
namespace Go.Proofs.YtfiogpoofpajcaaDoor.proofAccepts
open Go.ChangeShapes Go.WideShapes Go.ChangeAt Go.RowKit
open Go.ChangeMaps (open_string)


/-- What Challenge and Check say. -/
theorem ch_cases (m : Int) (a : ByteArray) : ((challengeS m a).2 ≠ 0 ∧ (challengeS m a).1 = ⟨#[]⟩) ∨ (m = 1 ∧ validS a = true ∧ challengeS m a = (a, 0)) ∨ (m = 2 ∧ validS a = true ∧ challengeS m a = (b64S (textS a), 0)) := by
  by_cases h : m ≠ 1 ∧ m ≠ 2
  · left; rw [challengeS, if_pos h]; exact ⟨by show (2 : Int) ≠ 0; decide, rfl⟩
  · cases hv : validS a with
    | false => left; rw [challengeS, if_neg h, if_pos hv]; exact ⟨by show (4 : Int) ≠ 0; decide, rfl⟩
    | true =>
      by_cases h1 : m = 1
      · right; left; exact ⟨h1, rfl, by rw [challengeS, if_neg h, if_neg (by rw [hv]; simp), if_pos h1]⟩
      · right; right; exact ⟨by omega, rfl, by rw [challengeS, if_neg h, if_neg (by rw [hv]; simp), if_neg h1]⟩
theorem check_ok (m : Int) (c a : ByteArray) : checkS m c a = 0 ↔ challengeS m a = (c, 0) := by
  rw [checkS]
  constructor
  · intro h
    split at h
    · rename_i hh; exact absurd h hh
    · rename_i hh
      split at h
      · cases h
      · rename_i h2
        simp only [ne_eq, Decidable.not_not] at hh h2
        rw [← h2, ← hh]
  · intro h; rw [h]; simp
theorem check_self {m : Int} {a : ByteArray} (h : (challengeS m a).2 = 0) : checkS m (challengeS m a).1 a = 0 := by
  rw [check_ok, ← h]
theorem check_other {m : Int} {a b : ByteArray} (h : checkS m b a = 0) : b = (challengeS m a).1 := by
  rw [check_ok] at h; rw [h]
set_option maxHeartbeats 1600000 in
theorem walk (m : Int) (a b : ByteArray) (w : World) (hd : DigOk w) (hp : PowOk w) (h0 : -9223372036854775808 ≤ m) (h1 : m ≤ 9223372036854775807) :
    Calls Tryd.prog 8 #[.int .i64 m, .string a, .string b] w fun e w' => e = .returned (.bool true) ∧ Below w.heap.size w w' := by
  have HS := Lib.hid (strs_lit w [a, b] 9)
  have B0 := Lib.hid ((Below.refl w.heap.size w).alloc (Nat.le_refl _) (.cells #[.string a, .string b] 9))
  have H0 := Lib.hid h0
  have H1 := Lib.hid h1
  clear h0 h1
  cases hl : longB [a, b] with
  | true =>
    go_enter Tryd.func8, Tryd.ntmps8
    go_wp2_with fail
    refine (long_any [a, b] _ _ _ HS.out (by simp)).mono ?_
    rintro e w1 ⟨rfl, rfl⟩
    rw [hl]
    clear hl
    go_wp2_with fail
    refine (live_any _ (hd.below B0.out) (hp.below B0.out)).mono ?_
    rintro e w1 ⟨rfl, hb1⟩
    go_wp2_with fail
    go_ret
    exact ⟨rfl, bthen B0.out hb1⟩
  | false =>
    have hsm := longB_small hl
    have ha3 : a.size ≤ 300 := hsm a (by simp)
    have hb3 : b.size ≤ 300 := hsm b (by simp)
    clear hsm
    have HCC := Lib.hid (ch_cases m a)
    have HKS : Hid ((challengeS m a).2 = 0 → checkS m (challengeS m a).1 a = 0) := check_self
    have HKO : Hid (checkS m b a = 0 → b = (challengeS m a).1) := check_other
    go_enter Tryd.func8, Tryd.ntmps8
    go_wp2_with fail
    refine (long_any [a, b] _ _ _ HS.out (by simp)).mono ?_
    rintro e w1 ⟨rfl, rfl⟩
    rw [hl]
    clear hl
    go_wp2_with fail
    refine (challenge_any m a _ (hd.below B0.out) H0.out H1.out (by omega)).mono ?_
    rintro e w1 ⟨rfl, hb1⟩
    have B1 := Lib.hid (bthen B0.out hb1)
    clear hb1
    generalize hr : challengeS m a = r at *
    have HR := Lib.hid hr
    clear hr
    obtain ⟨c, x⟩ := r
    have hcs : (x ≠ 0 ∧ c = ⟨#[]⟩) ∨ (m = 1 ∧ validS a = true ∧ (c, x) = (a, 0)) ∨ (m = 2 ∧ validS a = true ∧ (c, x) = (b64S (textS a), 0)) := HCC.out
    clear HCC
    by_cases hx : x = 0
    · subst hx
      have hck := HKS.out rfl
      have hcz : Hid (c.size ≤ 1000) := by
        show _ ≤ _
        rcases hcs with ⟨h, _⟩ | ⟨_, _, h⟩ | ⟨_, _, h⟩
        · exact absurd rfl h
        · cases h; omega
        · cases h; rw [b64S_size, textS_size]; decide
      have HCS := Lib.hid hcs
      have HCK := Lib.hid hck
      clear hcs HKS hck
      go_wp2_with fail
      refine (check_any m c a _ (hd.below B1.out) H0.out H1.out (by omega)).mono ?_
      rintro e w2 ⟨rfl, hb2⟩
      rw [HCK.out]
      have B2 := Lib.hid (bthen B1.out hb2)
      clear hb2
      go_wp2_with fail
      refine (check_any m b a _ (hd.below B2.out) H0.out H1.out (by omega)).mono ?_
      rintro e w3 ⟨rfl, hb3'⟩
      have B3 := Lib.hid (bthen B2.out hb3')
      clear hb3'
      have hko : (checkS m b a = 0 ∧ b = c) ∨ checkS m b a ≠ 0 := by
        by_cases h : checkS m b a = 0
        · exact .inl ⟨h, HKO.out h⟩
        · exact .inr h
      clear HKO
      generalize hy : checkS m b a = y at *
      have HY := Lib.hid hy
      clear hy
      rcases hko with ⟨rfl, hbc⟩ | hy0
      · have ebc : (b.toList == c.toList) = true := str_eqb hbc
        clear hbc
        go_wp2_with fail
        refine (live_any _ (hd.below B3.out) (hp.below B3.out)).mono ?_
        rintro e w5 ⟨rfl, hb5⟩
        have B5 := Lib.hid (bthen B3.out hb5)
        clear hb5
        go_wp2_with fail
        refine (check_any m c b _ (hd.below B5.out) H0.out H1.out (by omega)).mono ?_
        rintro e w6 ⟨rfl, hb6⟩
        have B6 := Lib.hid (bthen B5.out hb6)
        clear hb6
        have hz : checkS m c b = 0 ∨ checkS m c b ≠ 0 := by omega
        have HCE := Lib.hid (check_ok m c b)
        generalize checkS m c b = z at *
        rcases hz with rfl | hz
        · have hce := HCE.out.1 rfl
          rcases HCS.out with ⟨h, _⟩ | ⟨rfl, _, h⟩ | ⟨rfl, _, h⟩
          · exact absurd rfl h
          · obtain rfl : c = a := (Prod.mk.inj h).1
            have hab : Hid ((c.toList == b.toList) = true) := by
              show _ = _
              refine str_eqb ?_
              rcases ch_cases 1 b with ⟨h2, _⟩ | ⟨_, _, h2⟩ | ⟨h2, _⟩
              · rw [hce] at h2; exact absurd rfl h2
              · rw [hce] at h2; exact (Prod.mk.inj h2).1
              · cases h2
            have hab' := hab.out
            clear hce h
            go_wp2_with fail
            go_ret
            exact ⟨rfl, B6.out⟩
          · obtain rfl : c = b64S (textS a) := (Prod.mk.inj h).1
            have htt : textS a = textS b := by
              rcases ch_cases 2 b with ⟨h2, _⟩ | ⟨h2, _⟩ | ⟨_, _, h2⟩
              · rw [hce] at h2; exact absurd rfl h2
              · cases h2
              · rw [hce] at h2; exact b64S_inj (Prod.mk.inj h2).1
            have HT := Lib.hid htt
            have HRB : Hid (readB64S (b64S (textS a)) = textS a ∧ readB64Err (b64S (textS a)) = 0) := read_good (readB64_b64 _)
            clear hce h htt
            go_wp2_with fail
            refine (readb64_any (b64S (textS a)) _ (by have := hcz.out; omega)).mono ?_
            rintro e w7 ⟨rfl, hb7⟩
            rw [HRB.out.1, HRB.out.2]
            have B7 := Lib.hid (bthen B6.out hb7)
            clear hb7
            go_wp2_with fail
            refine (text_any a _ (hd.below B7.out) (by omega)).mono ?_
            rintro e w8 ⟨rfl, hb8⟩
            have B8 := Lib.hid (bthen B7.out hb8)
            clear hb8
            go_wp2_with fail
            refine (text_any a _ (hd.below B8.out) (by omega)).mono ?_
            rintro e w9 ⟨rfl, hb9⟩
            have B9 := Lib.hid (bthen B8.out hb9)
            clear hb9
            go_wp2_with fail
            refine (text_any b _ (hd.below B9.out) (by omega)).mono ?_
            rintro e w10 ⟨rfl, hb10⟩
            have B10 := Lib.hid (bthen B9.out hb10)
            clear hb10
            have ett : ((textS a).toList == (textS b).toList) = true := str_eqb HT.out
            go_wp2_with fail
            go_ret
            exact ⟨rfl, B10.out⟩
        · have hzb : (z != 0) = true := by rw [bne_iff_ne]; exact hz
          clear hz
          go_wp2_with fail
          go_ret
          exact ⟨rfl, B6.out⟩
      · have hyb : (y == 0) = false := by rw [beq_eq_false_iff_ne]; exact hy0
        clear hy0
        go_wp2_with fail
        refine (live_any _ (hd.below B3.out) (hp.below B3.out)).mono ?_
        rintro e w5 ⟨rfl, hb5⟩
        have B5 := Lib.hid (bthen B3.out hb5)
        clear hb5
        go_wp2_with fail
        refine (check_any m c b _ (hd.below B5.out) H0.out H1.out (by omega)).mono ?_
        rintro e w6 ⟨rfl, hb6⟩
        have B6 := Lib.hid (bthen B5.out hb6)
        clear hb6
        have hz : checkS m c b = 0 ∨ checkS m c b ≠ 0 := by omega
        have HCE := Lib.hid (check_ok m c b)
        generalize checkS m c b = z at *
        rcases hz with rfl | hz
        · have hce := HCE.out.1 rfl
          rcases HCS.out with ⟨h, _⟩ | ⟨rfl, _, h⟩ | ⟨rfl, _, h⟩
          · exact absurd rfl h
          · obtain rfl : c = a := (Prod.mk.inj h).1
            have hab : Hid ((c.toList == b.toList) = true) := by
              show _ = _
              refine str_eqb ?_
              rcases ch_cases 1 b with ⟨h2, _⟩ | ⟨_, _, h2⟩ | ⟨h2, _⟩
              · rw [hce] at h2; exact absurd rfl h2
              · rw [hce] at h2; exact (Prod.mk.inj h2).1
              · cases h2
            have hab' := hab.out
            clear hce h
            go_wp2_with fail
            go_ret
            exact ⟨rfl, B6.out⟩
          · obtain rfl : c = b64S (textS a) := (Prod.mk.inj h).1
            have htt : textS a = textS b := by
              rcases ch_cases 2 b with ⟨h2, _⟩ | ⟨h2, _⟩ | ⟨_, _, h2⟩
              · rw [hce] at h2; exact absurd rfl h2
              · cases h2
              · rw [hce] at h2; exact b64S_inj (Prod.mk.inj h2).1
            have HT := Lib.hid htt
            have HRB : Hid (readB64S (b64S (textS a)) = textS a ∧ readB64Err (b64S (textS a)) = 0) := read_good (readB64_b64 _)
            clear hce h htt
            go_wp2_with fail
            refine (readb64_any (b64S (textS a)) _ (by have := hcz.out; omega)).mono ?_
            rintro e w7 ⟨rfl, hb7⟩
            rw [HRB.out.1, HRB.out.2]
            have B7 := Lib.hid (bthen B6.out hb7)
            clear hb7
            go_wp2_with fail
            refine (text_any a _ (hd.below B7.out) (by omega)).mono ?_
            rintro e w8 ⟨rfl, hb8⟩
            have B8 := Lib.hid (bthen B7.out hb8)
            clear hb8
            go_wp2_with fail
            refine (text_any a _ (hd.below B8.out) (by omega)).mono ?_
            rintro e w9 ⟨rfl, hb9⟩
            have B9 := Lib.hid (bthen B8.out hb9)
            clear hb9
            go_wp2_with fail
            refine (text_any b _ (hd.below B9.out) (by omega)).mono ?_
            rintro e w10 ⟨rfl, hb10⟩
            have B10 := Lib.hid (bthen B9.out hb10)
            clear hb10
            have ett : ((textS a).toList == (textS b).toList) = true := str_eqb HT.out
            go_wp2_with fail
            go_ret
            exact ⟨rfl, B10.out⟩
        · have hzb : (z != 0) = true := by rw [bne_iff_ne]; exact hz
          clear hz
          go_wp2_with fail
          go_ret
          exact ⟨rfl, B6.out⟩
    · have hcE : c = ⟨#[]⟩ := by
        rcases hcs with ⟨_, h⟩ | ⟨_, _, h⟩ | ⟨_, _, h⟩
        · exact h
        · cases h; exact absurd rfl hx
        · cases h; exact absurd rfl hx
      subst hcE
      have hxb : (x != 0) = true := by rw [bne_iff_ne]; exact hx
      clear hx hcs HKS HKO
      go_wp2_with fail
      refine (live_any _ (hd.below B1.out) (hp.below B1.out)).mono ?_
      rintro e w5 ⟨rfl, hb5⟩
      have B5 := Lib.hid (bthen B1.out hb5)
      clear hb5
      go_wp2_with fail
      go_ret
      exact ⟨rfl, B5.out⟩

/-- What the walk gives, for every argument and every world that holds the listed variables. -/
theorem contract (H : Type) (enc : TypeId × Value → H) (W : World) (base : Nat) (args : Array Value) (ds gs : List (DataW H)) (before : List MemPlace)
    (hval : ∀ (j : Nat) t v, Tryd.f8.params[j]? = some t → args[j]? = some v → Value.okWide Tryd.prog W .any base t v)
    (hW : DataW.Whole enc Tryd.prog Tryd.f8.params.toList Rows.proofAcceptsSpec.vars false W args.toList ds gs before) (hL : laidMetH Tryd.prog Rows.proofAcceptsRow.laid W) :
    Calls Tryd.prog 8 args W fun e W' => ∃ v, e = .returned v ∧ Rows.proofAcceptsSpec.post enc Tryd.prog Tryd.f8 false true false false W args v W' := by
  have hW' := hW
  obtain ⟨p, q, hA0, hV, rfl, hfz, hnd⟩ := hW
  obtain ⟨rfl, rfl⟩ := trodVars_none hV
  have hA1 : DataW.TrodAll enc Tryd.prog W 0 (fun _ => true) true Tryd.f8.params.toList args.toList ds (p ++ []) := by rw [List.append_nil]; exact hA0
  have hA : DataW.TrodAll enc Tryd.prog W 0 (fun _ => true) true Tryd.f8.params.toList args.toList ds p := hA0
  rw [Tryd.params8] at hA hval
  obtain ⟨v0, vs0, d0, ds0, p0, q0, hargs, rfl, rfl, h0, r0⟩ := trodAll_cons hA
  obtain ⟨v1, vs1, d1, ds1, p1, q1, rfl, rfl, rfl, h1, r1⟩ := trodAll_cons r0
  obtain ⟨v2, vs2, d2, ds2, p2, q2, rfl, rfl, rfl, h2, r2⟩ := trodAll_cons r1
  obtain ⟨rfl, rfl, rfl⟩ := trodAll_nil r2
  obtain rfl : args = #[v0, v1, v2] := by cases args; simp_all
  obtain ⟨n0, rfl, rfl, rfl, wn0⟩ := open_int Tryd.underlying22 (hval 0 22 v0 rfl rfl) h0
  obtain ⟨lo0, hi0⟩ := bounds_i64 wn0
  obtain ⟨s1, rfl, rfl, rfl, hs1⟩ := open_string Tryd.underlying9 (hval 1 9 v1 rfl rfl) h1
  have hs1 : s1.size ≤ 9223372036854775807 := by unfold maxLen at hs1; exact hs1
  obtain ⟨s2, rfl, rfl, rfl, hs2⟩ := open_string Tryd.underlying9 (hval 2 9 v2 rfl rfl) h2
  have hs2 : s2.size ≤ 9223372036854775807 := by unfold maxLen at hs2; exact hs2
  obtain ⟨hd, hp⟩ := laid_tabs hL
  refine (walk n0 s1 s2 W hd hp lo0 hi0).mono fun e W' ⟨he, hb⟩ => ?_
  subst he
  exact ⟨_, rfl, law_post laidOut (by kernel_rfl) (by kernel_rfl) Tryd.underlying4 hW' rfl rfl hA1 hb⟩

theorem laid_met (os : Os) : laidMet Tryd.prog Rows.proofAcceptsRow.laid ((World.doorLaid Tryd.prog 29 os).forCall (fun _ _ => 0) ⟨#[], #[.int .i64 0, .string ByteArray.empty, .string ByteArray.empty], []⟩).memory :=
  laidMet_of_run' 8 (by kernel_rfl) (by kernel_rfl)
theorem reads (os : Os) {H : Type} (enc : TypeId × Value → H) : ∃ places, DataW.whole enc Tryd.prog ((World.doorLaid Tryd.prog 29 os).forCall (fun _ _ => 0) ⟨#[], #[.int .i64 0, .string ByteArray.empty, .string ByteArray.empty], []⟩).memory Tryd.f8.params.toList Rows.proofAcceptsSpec.vars false #[Value.int .i64 0, .string ByteArray.empty, .string ByteArray.empty].toList 8 = some ([.lit (.int .i64 0), .lit (.string []), .lit (.string [])], [], places) :=
  ⟨[], by kernel_rfl⟩

set_option maxRecDepth 100000 in
theorem lifted (os : Os) (started : os.Started) (H : Type) (enc : TypeId × Value → H) (F : Stop.Interp) :
    ReturnsInHanded {} Tryd.checked os 8 .any ((OpenSpec.ofChange Rows.proofAcceptsSpec).preRow enc Tryd.prog Tryd.f8 Rows.proofAcceptsRow.domain false Rows.proofAcceptsRow.laid) (((OpenSpec.ofChange Rows.proofAcceptsSpec).at F).post enc Tryd.prog Tryd.f8 false true false false) := by
  obtain ⟨places, hx⟩ := reads os enc
  refine returnsInHanded_of_row (C := Tryd.checked) (s := OpenSpec.ofChange Rows.proofAcceptsSpec) own started (by kernel_rfl) Tryd.func8
    (witness_row_at (enc := enc) (C := Tryd.checked) false (World.doorLaid Tryd.prog 29 os) #[.int .i64 0, .string ByteArray.empty, .string ByteArray.empty] rfl (by kernel_rfl) (by kernel_rfl) (by kernel_rfl)
      (OpenSpec.preRow_of_cond 8 hx (by kernel_rfl) (fun k hk => by cases hk) (by kernel_rfl) (laid_met os))) ?_
  intro W base args ds gs before hval hW _ _ _ hL _ _
  exact contract H enc W base args ds gs before hval hW hL

theorem said : Rows.ProofAcceptsSaid :=
  OpenClaim.holds_of_cond 8 Tryd.f8 rfl rfl rfl rfl rfl rfl rfl ⟨rfl, rfl, rfl, rfl, rfl⟩ rfl rfl rfl rfl rfl (by kernel_rfl) Tryd.func8 (by kernel_rfl)
    (of_decide_eq_true (by kernel_rfl)) (by unfold Func.isWrapper; first | (rw [if_pos (by decide +kernel)]; kernel_rfl) | (rw [if_neg (by decide +kernel)]; exact ⟨rfl, rfl⟩))
    (fun os started H enc _ F => by rw [OpenClaim.pre_eq_preRow]; exact lifted os started H enc F)

theorem plain (f : FuncId) (fn : Func) (hf : Tryd.pinned.checked.prog.funcNamed Rows.proofAcceptsRow.func = some f) (hfn : Tryd.pinned.checked.prog.funcs[f]? = some fn) :
    false = Tryd.pinned.checked.prog.looks [] ∧ ∀ (j : Nat) t, fn.params[j]? = some t → Tryd.pinned.checked.prog.wantsStandIn t = false := by
  obtain rfl : f = 8 := Option.some.inj ((show Tryd.prog.funcNamed Rows.proofAcceptsRow.func = some 8 by kernel_rfl).symm.trans hf) |>.symm
  obtain rfl : fn = Tryd.f8 := (Option.some.inj (Tryd.func8.symm.trans hfn)).symm
  refine ⟨by kernel_rfl, fun j t ht => ?_⟩
  rw [Tryd.params8] at ht
  have hm : t ∈ [22, 9, 9] := by simpa using Array.mem_of_getElem? ht
  have hall : ([22, 9, 9].all fun u => !Tryd.prog.wantsStandIn u) = true := by kernel_rfl
  exact (show Tryd.prog.wantsStandIn t = false by simpa using List.all_eq_true.1 hall t hm)

theorem card : Rows.ProofAcceptsCardSaid :=
  Claim7.holds_tied_plain_at .later [] _ _ _ _ said (fun _ h => by cases h) (by kernel_rfl) (fun _ h => by cases h) proofAccepts_row_tie rfl ⟨rfl, rfl⟩ (by kernel_rfl) rfl plain (by kernel_rfl)
end Go.Proofs.YtfiogpoofpajcaaDoor.proofAccepts
