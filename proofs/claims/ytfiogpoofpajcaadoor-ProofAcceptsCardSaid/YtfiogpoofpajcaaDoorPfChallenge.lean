/- proof.Challenge, Check, Unique and their references. -/
import Derived.Test.YtfiogpoofpajcaaDoorPfWords
import Derived.Test.YtfiogpoofpajcaaDoorCodRef64
import Derived.Test.YtfiogpoofpajcaaDoorCodR64
import Derived.Test.YtfiogpoofpajcaaDoorCodRefInt
import Derived.Test.YtfiogpoofpajcaaDoorDigMac
import Derived.Maps.Own
import Derived.Maps.OwnSet
import Derived.Maps.StringElems
namespace Go.Proofs.YtfiogpoofpajcaaDoor
open Go.RowKit Go.Maps

theorem ownsMap_below {H : Type} {P : Program} {k : TypeId} {R : Value → Option (DataW H × List MemPlace)} {w w' : World} {b n : Nat} {D : DataW H} (h : w.ownsMap P k R b n D) (hb : Below w.heap.size w w') : w'.ownsMap P k R b n D := by
  have hl := h.lt
  obtain ⟨es, clock, h1, r⟩ := h
  exact ⟨es, clock, (hb.block b hl).trans h1, r⟩
theorem keyMethod : Keyed Tryd.prog 22 := int_keyed Tryd.underlying22
theorem zeroStr (w : World) : (zeroValue 9).run Tryd.prog w = .ok (.string ByteArray.empty) w := by kernel_rfl

theorem lit_ne {k : IntKind} {a b : Int} (h : a ≠ b) : Lit.int k a ≠ Lit.int k b := fun e => h (by injection e)
theorem str_of_lit {H : Type} {a b : ByteArray} (h : (DataW.lit (.string a.data.toList) : DataW H) = .lit (.string b.data.toList)) : a = b := by
  injection h with h
  injection h with h
  exact ByteArray.ext (Array.toList_inj.1 h)
/-- proof.Challenge. -/
def challengeS (m : Int) (v : ByteArray) : ByteArray × Int :=
  if m ≠ 1 ∧ m ≠ 2 then (⟨#[]⟩, 2) else if validS v = false then (⟨#[]⟩, 4) else if m = 1 then (v, 0) else (b64S (textS v), 0)

set_option maxHeartbeats 2000000 in
theorem challenge_any (m : Int) (v : ByteArray) (w : World) (hd : DigOk w) (h0 : -9223372036854775808 ≤ m) (h1 : m ≤ 9223372036854775807) (hv : v.size ≤ 1000000) :
    Calls Tryd.prog 11 #[.int .i64 m, .string v] w fun e w' => e = .returned (.tuple #[.string (challengeS m v).1, .int .i64 (challengeS m v).2]) ∧ Below w.heap.size w w' := by
  have hmm := @run_makeMap Tryd.prog
  have o0 := World.ownsMap_made w Tryd.prog 22 (plainElem (H := Unit) Tryd.prog 9)
  obtain ⟨w1, r1, o1, g1⟩ := o0.update keyMethod Tryd.underlying43 (by decide) (key := .int .i64 1) (val := .string v) (keyOf_int_mk Tryd.underlying22 (by decide)) (plainElem_string Tryd.underlying9 (by unfold maxLen; omega))
  have b1 : Below w.heap.size w w1 := ((Below.refl _ _).alloc (Nat.le_refl _) _).grown g1 (by simp) (fun k hk => by cases hk; exact Nat.le_refl _)
  have O1 := Lib.hid o1
  have B1 := Lib.hid b1
  clear o0 o1 g1 b1
  go_enter Tryd.func11, Tryd.ntmps11
  go_wp2_with fail
  refine (text_any v _ (hd.below B1.out) (by omega)).mono ?_
  rintro e w2 ⟨rfl, hb2⟩
  have B2 := Lib.hid hb2
  clear hb2
  go_wp2_with fail
  have ht : Hid ((textS v).size ≤ 1000000000) := by show _ ≤ _; rw [textS_size]; decide
  refine (base64_any (textS v) _ ht.out).mono ?_
  rintro e w3 ⟨rfl, hb3⟩
  have o3 := ownsMap_below (ownsMap_below O1.out B2.out) hb3
  have hz : (b64S (textS v)).size ≤ maxLen := by rw [b64S_size, textS_size]; decide
  obtain ⟨w4, r4, o4, g4⟩ := o3.update keyMethod Tryd.underlying43 (by decide) (key := .int .i64 2) (val := .string (b64S (textS v))) (keyOf_int_mk Tryd.underlying22 (by decide)) (plainElem_string Tryd.underlying9 hz)
  have b3 : Below w.heap.size w w3 := bthen (bthen B1.out B2.out) hb3
  have b4 : Below w.heap.size w w4 := b3.grown g4 b3.size (fun k hk => by cases hk; exact Nat.le_refl _)
  have B4 := Lib.hid b4
  have hwf : (Lit.int .i64 m).wf = true := WalkArith.wf_i64 ⟨h0, h1⟩
  obtain ⟨x, ps, r5, hx⟩ := o4.look_ok keyMethod Tryd.underlying43 (zeroStr w4) (plainElem_string Tryd.underlying9 (by decide)) (key := .int .i64 m) (keyOf_int_mk Tryd.underlying22 hwf)
  obtain ⟨y, rfl, hy, _⟩ := plainElem_string_inv Tryd.underlying9 hx
  have HY := Lib.hid hy
  clear hb3 o3 o4 g4 b3 b4 hx hy hz hwf
  have i1 : IsMap ((DataW.map [] : DataW Unit).put (.int .i64 1) (.lit (.string v.data.toList))) := (isMap_empty).put _ _
  by_cases hm1 : m = 1
  · subst hm1
    have e1 : has (((DataW.map [] : DataW Unit).put (.int .i64 1) (.lit (.string v.data.toList))).put (.int .i64 2) (.lit (.string (b64S (textS v)).data.toList))) (.int .i64 1) = true := by
      rw [has_put_other (lit_ne (by decide))]; exact has_put_same isMap_empty (by trivial) _
    obtain rfl : v = y := by
      have h := HY.out
      rw [atKey_put_other (lit_ne (by decide)), atKey_put_same isMap_empty (by trivial)] at h
      simp only [Prod.mk.injEq] at h
      exact str_of_lit h.1
    rw [e1] at r5
    clear e1 HY i1 h0 h1
    cases hv2 : validS v with
    | false =>
      have HV := Lib.hid hv2
      have HC : Hid (challengeS 1 v = (⟨#[]⟩, 4)) := by show _ = _; simp [challengeS, hv2]
      go_wp2_with fail
      refine (valid_any v _ (by omega)).mono ?_
      rintro e w5 ⟨rfl, rfl⟩
      rw [hv2]
      clear hv2
      go_wp2_with fail
      go_ret2
      exact ⟨ret_se (congrArg Prod.fst HC.out.symm) (congrArg Prod.snd HC.out.symm), B4.out⟩
    | true =>
      have HV := Lib.hid hv2
      have HC : Hid (challengeS 1 v = (v, 0)) := by show _ = _; simp [challengeS, hv2]
      go_wp2_with fail
      refine (valid_any v _ (by omega)).mono ?_
      rintro e w5 ⟨rfl, rfl⟩
      rw [hv2]
      clear hv2
      go_wp2_with fail
      go_ret2
      exact ⟨ret_se (congrArg Prod.fst HC.out.symm) (congrArg Prod.snd HC.out.symm), B4.out⟩
  · by_cases hm2 : m = 2
    · subst hm2
      have e1 : has (((DataW.map [] : DataW Unit).put (.int .i64 1) (.lit (.string v.data.toList))).put (.int .i64 2) (.lit (.string (b64S (textS v)).data.toList))) (.int .i64 2) = true := has_put_same i1 (by trivial) _
      obtain ⟨q, hq⟩ : ∃ q, b64S (textS v) = q := ⟨_, rfl⟩
      rw [hq] at HY
      have hyv : q = y := by
        have h := HY.out
        rw [atKey_put_same i1 (by trivial)] at h
        simp only [Prod.mk.injEq] at h
        exact str_of_lit h.1
      rw [e1, ← hyv, ← hq] at r5
      clear e1 HY i1 h0 h1 hm1 hq hyv
      cases hv2 : validS v with
      | false =>
        have HV := Lib.hid hv2
        have HC : Hid (challengeS 2 v = (⟨#[]⟩, 4)) := by show _ = _; simp [challengeS, hv2]
        go_wp2_with fail
        refine (valid_any v _ (by omega)).mono ?_
        rintro e w5 ⟨rfl, rfl⟩
        rw [hv2]
        clear hv2
        go_wp2_with fail
        go_ret2
        exact ⟨ret_se (congrArg Prod.fst HC.out.symm) (congrArg Prod.snd HC.out.symm), B4.out⟩
      | true =>
        have HV := Lib.hid hv2
        have HC : Hid (challengeS 2 v = (b64S (textS v), 0)) := by show _ = _; simp [challengeS, hv2]
        go_wp2_with fail
        refine (valid_any v _ (by omega)).mono ?_
        rintro e w5 ⟨rfl, rfl⟩
        rw [hv2]
        clear hv2
        go_wp2_with fail
        go_ret2
        exact ⟨ret_se (congrArg Prod.fst HC.out.symm) (congrArg Prod.snd HC.out.symm), B4.out⟩
    · have e1 : has (((DataW.map [] : DataW Unit).put (.int .i64 1) (.lit (.string v.data.toList))).put (.int .i64 2) (.lit (.string (b64S (textS v)).data.toList))) (.int .i64 m) = false := by
        rw [has_put_other (lit_ne hm2), has_put_other (lit_ne hm1)]; rfl
      have HC : Hid (challengeS m v = (⟨#[]⟩, 2)) := by show _ = _; simp [challengeS, hm1, hm2]
      rw [e1] at r5
      clear e1 HY i1 h0 h1 hm1 hm2
      go_wp2_with fail
      go_ret2
      exact ⟨ret_se (congrArg Prod.fst HC.out.symm) (congrArg Prod.snd HC.out.symm), B4.out⟩

set_option maxHeartbeats 1000000 in
theorem rchallenge_any (m : Int) (v : ByteArray) (w : World) (hv : v.size ≤ 1000000) :
    Calls Tryd.prog 12 #[.int .i64 m, .string v] w fun e w' => e = .returned (.tuple #[.string (challengeS m v).1, .int .i64 (challengeS m v).2]) ∧ Below w.heap.size w w' := by
  by_cases hm1 : m = 1
  · subst hm1
    cases hv2 : validS v with
    | false =>
      have HC : Hid (challengeS 1 v = (⟨#[]⟩, 4)) := by show _ = _; simp [challengeS, hv2]
      go_enter Tryd.func12, Tryd.ntmps12
      go_wp2_with fail
      refine (rvalid_any v _ (by omega)).mono ?_
      rintro e w5 ⟨rfl, rfl⟩
      rw [hv2]
      clear hv2
      go_wp2_with fail
      go_ret2
      exact ⟨ret_se (congrArg Prod.fst HC.out.symm) (congrArg Prod.snd HC.out.symm), Below.refl _ _⟩
    | true =>
      have HC : Hid (challengeS 1 v = (v, 0)) := by show _ = _; simp [challengeS, hv2]
      go_enter Tryd.func12, Tryd.ntmps12
      go_wp2_with fail
      refine (rvalid_any v _ (by omega)).mono ?_
      rintro e w5 ⟨rfl, rfl⟩
      rw [hv2]
      clear hv2
      go_wp2_with fail
      go_ret2
      exact ⟨ret_se (congrArg Prod.fst HC.out.symm) (congrArg Prod.snd HC.out.symm), Below.refl _ _⟩
  · by_cases hm2 : m = 2
    · subst hm2
      clear hm1
      cases hv2 : validS v with
      | false =>
        have HC : Hid (challengeS 2 v = (⟨#[]⟩, 4)) := by show _ = _; simp [challengeS, hv2]
        go_enter Tryd.func12, Tryd.ntmps12
        go_wp2_with fail
        refine (rvalid_any v _ (by omega)).mono ?_
        rintro e w5 ⟨rfl, rfl⟩
        rw [hv2]
        clear hv2
        go_wp2_with fail
        go_ret2
        exact ⟨ret_se (congrArg Prod.fst HC.out.symm) (congrArg Prod.snd HC.out.symm), Below.refl _ _⟩
      | true =>
        have HC : Hid (challengeS 2 v = (b64S (textS v), 0)) := by show _ = _; simp [challengeS, hv2]
        go_enter Tryd.func12, Tryd.ntmps12
        go_wp2_with fail
        refine (rvalid_any v _ (by omega)).mono ?_
        rintro e w5 ⟨rfl, rfl⟩
        rw [hv2]
        clear hv2
        go_wp2_with fail
        refine (rtext_any v _ (by omega)).mono ?_
        rintro e w5 ⟨rfl, rfl⟩
        go_wp2_with fail
        have ht : Hid ((textS v).size ≤ 1000000000) := by show _ ≤ _; rw [textS_size]; decide
        refine (rbase64_any (textS v) _ ht.out).mono ?_
        rintro e w3 ⟨rfl, hb3⟩
        go_wp2_with fail
        go_ret2
        exact ⟨ret_se (congrArg Prod.fst HC.out.symm) (congrArg Prod.snd HC.out.symm), hb3⟩
    · have HC : Hid (challengeS m v = (⟨#[]⟩, 2)) := by show _ = _; simp [challengeS, hm1, hm2]
      have b1 : (m != 1) = true := by rw [bne_iff_ne]; exact hm1
      have b2 : (m != 2) = true := by rw [bne_iff_ne]; exact hm2
      clear hm1 hm2
      go_enter Tryd.func12, Tryd.ntmps12
      go_wp2_with fail
      go_ret2
      exact ⟨ret_se (congrArg Prod.fst HC.out.symm) (congrArg Prod.snd HC.out.symm), Below.refl _ _⟩

/-- proof.Check. -/
def checkS (m : Int) (c v : ByteArray) : Int := if (challengeS m v).2 ≠ 0 then (challengeS m v).2 else if (challengeS m v).1 ≠ c then 20 else 0
theorem str_eqb {a b : ByteArray} (h : a = b) : (a.toList == b.toList) = true := by rw [h]; simp
set_option maxHeartbeats 1000000 in
theorem check_any (m : Int) (c v : ByteArray) (w : World) (hd : DigOk w) (h0 : -9223372036854775808 ≤ m) (h1 : m ≤ 9223372036854775807) (hv : v.size ≤ 1000000) :
    Calls Tryd.prog 15 #[.int .i64 m, .string c, .string v] w fun e w' => e = .returned (.int .i64 (checkS m c v)) ∧ Below w.heap.size w w' := by
  have HCH := Lib.hid (challenge_any m v w hd h0 h1 hv)
  clear h0 h1
  have HC : Hid (checkS m c v = if (challengeS m v).2 ≠ 0 then (challengeS m v).2 else if (challengeS m v).1 ≠ c then 20 else 0) := rfl
  generalize challengeS m v = p at *
  obtain ⟨a, x⟩ := p
  by_cases hx : x = 0
  · subst hx
    by_cases ha : a = c
    · have hb := str_eqb ha
      have HV : Hid (checkS m c v = 0) := by show _ = _; rw [HC.out]; simp [ha]
      clear ha
      go_enter Tryd.func15, Tryd.ntmps15
      go_wp2_with fail
      refine HCH.out.mono ?_
      rintro e w1 ⟨rfl, hb1⟩
      go_wp2_with fail
      go_ret
      exact ⟨ret_int HV.out.symm, hb1⟩
    · have hb := str_ne ha
      have HV : Hid (checkS m c v = 20) := by show _ = _; rw [HC.out]; simp [ha]
      clear ha
      go_enter Tryd.func15, Tryd.ntmps15
      go_wp2_with fail
      refine HCH.out.mono ?_
      rintro e w1 ⟨rfl, hb1⟩
      go_wp2_with fail
      go_ret
      exact ⟨ret_int HV.out.symm, hb1⟩
  · have hb : (x != 0) = true := by rw [bne_iff_ne]; exact hx
    have HV : Hid (checkS m c v = x) := by show _ = _; rw [HC.out]; simp [hx]
    clear hx
    go_enter Tryd.func15, Tryd.ntmps15
    go_wp2_with fail
    refine HCH.out.mono ?_
    rintro e w1 ⟨rfl, hb1⟩
    go_wp2_with fail
    go_ret
    exact ⟨ret_int HV.out.symm, hb1⟩
set_option maxHeartbeats 1000000 in
theorem rcheck_any (m : Int) (c v : ByteArray) (w : World) (hv : v.size ≤ 1000000) :
    Calls Tryd.prog 16 #[.int .i64 m, .string c, .string v] w fun e w' => e = .returned (.int .i64 (checkS m c v)) ∧ Below w.heap.size w w' := by
  have HCH := Lib.hid (rchallenge_any m v w hv)
  have HC : Hid (checkS m c v = if (challengeS m v).2 ≠ 0 then (challengeS m v).2 else if (challengeS m v).1 ≠ c then 20 else 0) := rfl
  generalize challengeS m v = p at *
  obtain ⟨a, x⟩ := p
  by_cases hx : x = 0
  · subst hx
    by_cases ha : a = c
    · have hb := str_eqb ha
      have HV : Hid (checkS m c v = 0) := by show _ = _; rw [HC.out]; simp [ha]
      clear ha
      go_enter Tryd.func16, Tryd.ntmps16
      go_wp2_with fail
      refine HCH.out.mono ?_
      rintro e w1 ⟨rfl, hb1⟩
      go_wp2_with fail
      go_ret
      exact ⟨ret_int HV.out.symm, hb1⟩
    · have hb := str_ne ha
      have HV : Hid (checkS m c v = 20) := by show _ = _; rw [HC.out]; simp [ha]
      clear ha
      go_enter Tryd.func16, Tryd.ntmps16
      go_wp2_with fail
      refine HCH.out.mono ?_
      rintro e w1 ⟨rfl, hb1⟩
      go_wp2_with fail
      go_ret
      exact ⟨ret_int HV.out.symm, hb1⟩
  · have hb : (x != 0) = true := by rw [bne_iff_ne]; exact hx
    have HV : Hid (checkS m c v = x) := by show _ = _; rw [HC.out]; simp [hx]
    clear hx
    go_enter Tryd.func16, Tryd.ntmps16
    go_wp2_with fail
    refine HCH.out.mono ?_
    rintro e w1 ⟨rfl, hb1⟩
    go_wp2_with fail
    go_ret
    exact ⟨ret_int HV.out.symm, hb1⟩

/-- proof.Unique. -/
def uniqueS (seed : ByteArray) (n : Int) : ByteArray := ⟨#[117]⟩ ++ textS (itoaS n ++ ⟨#[58]⟩ ++ seed)
theorem uniq_room (seed : ByteArray) (n : Int) (h0 : -9223372036854775808 ≤ n) (h1 : n ≤ 9223372036854775807) (hs : seed.size ≤ 1000000) : (itoaS n ++ ⟨#[58]⟩ ++ seed).size ≤ 9223372036854775807 := by
  have := itoaS_size n h0 h1
  have h2 : (⟨#[58]⟩ : ByteArray).size = 1 := rfl
  simp only [ByteArray.size_append]; omega
set_option maxHeartbeats 1000000 in
theorem unique_any (seed : ByteArray) (n : Int) (w : World) (hd : DigOk w) (hp : PowOk w) (h0 : -9223372036854775808 ≤ n) (h1 : n ≤ 9223372036854775807) (hs : seed.size ≤ 1000000) :
    Calls Tryd.prog 17 #[.string seed, .int .i64 n] w fun e w' => e = .returned (.string (uniqueS seed n)) ∧ Below w.heap.size w w' := by
  have HI := Lib.hid (cint_any n w h0 h1 hp)
  have hz := itoaS_size n h0 h1
  have HR := Lib.hid (uniq_room seed n h0 h1 hs)
  have ht := Nat.le_of_eq (textS_size (itoaS n ++ ⟨#[58]⟩ ++ seed))
  clear h0 h1
  go_enter Tryd.func17, Tryd.ntmps17
  go_wp2_with fail
  refine HI.out.mono ?_
  rintro e w1 ⟨rfl, hb1⟩
  go_wp2_with fail
  refine (text_any _ _ (hd.below hb1) HR.out).mono ?_
  rintro e w2 ⟨rfl, hb2⟩
  go_wp2_with fail
  go_ret
  exact ⟨rfl, bthen hb1 hb2⟩
set_option maxHeartbeats 1000000 in
theorem runique_any (seed : ByteArray) (n : Int) (w : World) (h0 : -9223372036854775808 ≤ n) (h1 : n ≤ 9223372036854775807) (hs : seed.size ≤ 1000000) :
    Calls Tryd.prog 18 #[.string seed, .int .i64 n] w fun e w' => e = .returned (.string (uniqueS seed n)) ∧ Below w.heap.size w w' := by
  have HI := Lib.hid (rint_any n w h0 h1)
  have hz := itoaS_size n h0 h1
  have HR := Lib.hid (uniq_room seed n h0 h1 hs)
  have ht := Nat.le_of_eq (textS_size (itoaS n ++ ⟨#[58]⟩ ++ seed))
  clear h0 h1
  go_enter Tryd.func18, Tryd.ntmps18
  go_wp2_with fail
  refine HI.out.mono ?_
  rintro e w1 ⟨rfl, hb1⟩
  go_wp2_with fail
  refine (rtext_any _ _ HR.out).mono ?_
  rintro e w2 ⟨rfl, rfl⟩
  go_wp2_with fail
  go_ret
  exact ⟨rfl, hb1⟩
end Go.Proofs.YtfiogpoofpajcaaDoor
