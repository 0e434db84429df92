/- JournalBack: for every list of strings and every number the law answers true and leaves its arguments alone; no condition. -/
import Derived.Lay
import Derived.Test.YtkhdhelhkokdcaaDoorCards
import Derived.Test.YtkhdhelhkokdcaaDoorTie
import Derived.Test.YtkhdhelhkokdcaaDoorJrnLaid
import Derived.Test.YtkhdhelhkokdcaaDoorJrnAwake
import Derived.Test.YtkhdhelhkokdcaaDoorJrnBackP
import Derived.Test.YtkhdhelhkokdcaaDoorOpenStrs
namespace Go.Proofs.YtkhdhelhkokdcaaDoor.journalBack
open Go.ChangeShapes Go.WideShapes Go.ChangeAt Go.RowKit
open Go.ChangeMaps (open_string)


theorem keep_max (n : Nat) (keep : Int) : max 0 (min keep (n : Int)) = (keepK n keep : Int) := by unfold keepK; omega
set_option maxHeartbeats 8000000 in
set_option maxRecDepth 100000 in
theorem walk (l : List ByteArray) (A : Option Addr) (c : Nat) (cut : Int) (w : World) (hd : DigOk w) (hp : PowOk w) (hE : ErrsOk w) (hS0 : Strs w A l) (hc : l.length ≤ c) (_hl : l.length ≤ 9223372036854775807) :
    Calls Tryd.prog 7 #[.slice A l.length c, .int .i64 cut] w fun e w' => e = .returned (.bool true) ∧ Below w.heap.size w w' := by
  have HS := Lib.hid hS0
  clear hS0
  go_enter Tryd.func7, Tryd.ntmps7
  go_wp2_with fail
  go_loopw [5, 6] (fun s i wr => ∃ (k : Nat) (pre : List UInt8), k ≤ l.length ∧ k ≤ 20 ∧ i = .int .i64 k ∧ s = .string ⟨pre.toArray⟩ ∧ Hid (encL (l.take k) = pre) ∧ Hid (∀ r ∈ l.take k, r.size ≤ 300) ∧ pre.length ≤ 400 * k ∧ Below w.heap.size w wr) (fun _ i _ => l.length - (intOf i).toNat)
  case atStart => exact ⟨0, [], Nat.zero_le _, by omega, rfl, rfl, Lib.hid rfl, Lib.hid (fun r hr => by simp at hr), Nat.zero_le _, Below.refl _ _⟩
  case round =>
    obtain ⟨k, pre, hk, hk20, rfl, rfl, HP, HZ0, hpl, hbr⟩ := hrel
    by_cases hlt : k < l.length
    · obtain ⟨b, o, rfl, hcl⟩ := (HS.out.below hbr) k hlt
      have HE := Lib.hid (encL_take l k hlt)
      have HT : Hid (l.take (k + 1) = l.take k ++ [l[k]]) := by show _ = _; rw [List.take_succ_eq_append_getElem hlt]
      generalize l[k] = r at *
      by_cases h20 : 20 ≤ k
      ·
        go_wp2_with fail
        refine (awake_any _ (hd.below hbr) (hp.below hbr) (hE.below hbr)).mono ?_
        rintro e wz ⟨rfl, hbz⟩
        have BZ := Lib.hid (bthen hbr hbz)
        clear hbz
        go_wp2_with fail
        go_ret
        exact ⟨rfl, BZ.out⟩
      · by_cases h300 : 300 < r.size
        ·
          go_wp2_with fail
          refine (awake_any _ (hd.below hbr) (hp.below hbr) (hE.below hbr)).mono ?_
          rintro e wz ⟨rfl, hbz⟩
          have BZ := Lib.hid (bthen hbr hbz)
          clear hbz
          go_wp2_with fail
          go_ret
          exact ⟨rfl, BZ.out⟩
        · have hez : (encS r).size ≤ 400 := by
            have h1 := encS_size r
            have h2 := itoaS_size r.size (by omega) (by omega)
            omega
          have hpz : (⟨pre.toArray⟩ : ByteArray).size = pre.length := by show pre.toArray.size = _; simp
          have hcc : ¬ 9223372036854775807 < (⟨pre.toArray⟩ : ByteArray).size + (encS r).size := by omega
          have HA : Hid ((⟨pre.toArray⟩ : ByteArray) ++ encS r = ⟨(pre ++ (encS r).data.toList).toArray⟩) := Lib.hid (by
            apply ByteArray.ext
            simp [ByteArray.data_append])
          generalize (⟨pre.toArray⟩ : ByteArray) = ps at *
          clear hpz
          go_wp2_with fail
          refine (enc_any r _ (hd.below hbr) (hp.below hbr) (by omega)).mono ?_
          rintro e w1 ⟨rfl, hb1⟩
          have hbr1 := Lib.hid (bthen hbr hb1)
          clear hb1
          go_wp2_with fail
          go_roundw
          case rel => exact ⟨k + 1, pre ++ (encS r).data.toList, hlt, by omega, by go_num, congrArg Value.string HA.out, Lib.hid (by rw [← HE.out, HP.out]), Lib.hid (by
            rw [HT.out]
            intro x hx
            rw [List.mem_append, List.mem_singleton] at hx
            rcases hx with hx | rfl
            · exact HZ0.out x hx
            · omega), by simp; omega, hbr1.out⟩
          case measure => simp [intOf]; omega
    · have hl20 : l.length ≤ 20 := by omega
      have HZ3 : Hid (∀ r ∈ l, r.size ≤ 300) := Lib.hid (by have h := HZ0.out; rwa [List.take_of_length_le (by omega)] at h)
      have HZ4 : Hid (∀ r ∈ l, r.size ≤ 4096) := Lib.hid (fun r hr => by have := HZ3.out r hr; omega)
      have HE : Hid ((⟨pre.toArray⟩ : ByteArray) = encB l) := Lib.hid (by
        have h := HP.out
        rw [List.take_of_length_le (by omega)] at h
        rw [encB, h])
      have hsz : (encB l).size ≤ 8000 := by rw [← HE.out]; show pre.toArray.size ≤ _; simp; omega
      rw [HE.out]
      clear hpl HP HZ0 HE
      obtain ⟨K, HK⟩ : ∃ K, Hid (keepK (encB l).size cut = K) := ⟨_, Lib.hid rfl⟩
      have hkm := keep_max (encB l).size cut
      have hkl := keep_le (encB l).size cut
      rw [HK.out] at hkm hkl
      have B0 := Lib.hid hbr
      go_wp2_with fail
      refine (decode_any (encB l) _ (hd.below B0.out) (hp.below B0.out) (hE.below B0.out) (by omega)).mono ?_
      rintro e w1 ⟨⟨v1, l1, n1, rfl, hown1, hD1, _⟩, hb1⟩
      obtain ⟨e1, e2⟩ := back_whole HZ4.out hD1
      subst e2
      rw [e1] at hown1
      clear hD1 e1
      obtain ⟨A1, c1, rfl, hs1, _⟩ := Rec.strs (.inl hown1)
      have HA1 := Lib.hid hs1
      have B1 := Lib.hid (bthen B0.out hb1)
      have hc1 : Hid (Below w.heap.size w w1) := B1
      clear hown1 hs1 hb1
      go_wp2_with fail
      refine (decode_any ((encB l).extract 0 K) _ (hd.below B1.out) (hp.below B1.out) (hE.below B1.out) (by rw [ByteArray.size_extract]; omega)).mono ?_
      rintro e w2 ⟨⟨v2, b, m, rfl, hown2, hD2, _⟩, hb2⟩
      have HDb := Lib.hid hD2
      have hpre := back_pre HZ4.out hkl hD2
      have hbl : b.length ≤ l.length := hpre.1.length_le
      have hmk : m ≤ K := hpre.2.1
      have HMB := Lib.hid hpre.2.2
      have HBT : Hid (l.take b.length = b) := Lib.hid (List.prefix_iff_eq_take.1 hpre.1).symm
      obtain ⟨A2, c2, rfl, hs2, _⟩ := Rec.strs (.inl hown2)
      have HA2 := Lib.hid (HA1.out.below hb2)
      have HB2 := Lib.hid hs2
      have B2 := Lib.hid (bthen B1.out hb2)
      have HMS : Hid (∀ r ∈ b, r.size ≤ 4096) := Lib.hid hD2.small
      clear hown2 hD2 hs2 hb2 hpre
      have hmin : min (b.length : Int) (l.length : Int) = (b.length : Int) := by omega
      have hbc : b.length ≤ c := by omega
      go_wp2_with fail
      refine (same_any l l A1 A c1 c _ HA2.out (HS.out.below B2.out) (by omega) (by omega)).mono ?_
      rintro e w3 ⟨rfl, hb3⟩
      have B3 := Lib.hid (bthen B2.out hb3)
      have HB3 := Lib.hid (HB2.out.below hb3)
      clear hb3
      have HL3 : Hid (Strs w3 A b) := Lib.hid (by have h := strs_take (HS.out.below B3.out) b.length; rwa [HBT.out] at h)
      go_wp2_with fail
      refine (same_any b b A2 A c2 c _ HB3.out HL3.out (by omega) (by omega)).mono ?_
      rintro e w4 ⟨rfl, hb4⟩
      have B4 := Lib.hid (bthen B3.out hb4)
      have HB4 := Lib.hid (HB3.out.below hb4)
      clear hb4
      have hmz : m ≤ (encB l).size := by omega
      go_wp2_with fail
      refine (decode_any ((encB l).extract 0 m) _ (hd.below B4.out) (hp.below B4.out) (hE.below B4.out) (by rw [ByteArray.size_extract]; omega)).mono ?_
      rintro e w5 ⟨⟨v5, c6, n5, rfl, hown5, hD5, _⟩, hb5⟩
      have e5 := back_again HMS.out HMB.out hD5
      rw [e5] at hown5
      clear hD5 e5
      obtain ⟨A5, c5, rfl, hs5, _⟩ := Rec.strs (.inl hown5)
      have HC5 := Lib.hid hs5
      have HBb5 := Lib.hid (HB4.out.below hb5)
      have B5 := Lib.hid (bthen B4.out hb5)
      have HL5 := Lib.hid (HS.out.below B5.out)
      clear hown5 hs5 hb5
      by_cases hblt : b.length < l.length
      · have hne : ((b.length : Int) == (l.length : Int)) = false := by rw [beq_eq_false_iff_ne]; omega
        obtain ⟨bq, oq, hAq, hcq⟩ := HL5.out b.length hblt
        have HN := Lib.hid (back_next HZ4.out hkl HDb.out hblt)
        have hrz := HZ3.out _ (List.getElem_mem hblt)
        generalize l[b.length] = x at hcq HN hrz
        have hgt : K < m + (encS x).size := HN.out
        have hexz : (encS x).size ≤ 400 := by
          have h1 := encS_size x
          have h2 := itoaS_size x.size (by omega) (by omega)
          omega
        subst hAq
        go_wp2_with fail
        refine (enc_any x _ (hd.below B5.out) (hp.below B5.out) (by omega)).mono ?_
        rintro e w6 ⟨rfl, hb6⟩
        have HC6 := Lib.hid (HC5.out.below hb6)
        have HBb6 := Lib.hid (HBb5.out.below hb6)
        have B6 := Lib.hid (bthen B5.out hb6)
        clear hb6
        go_wp2_with fail
        refine (same_any b b A5 A2 c5 c2 _ HC6.out HBb6.out (by omega) (by omega)).mono ?_
        rintro e w7 ⟨rfl, hb7⟩
        have B7 := Lib.hid (bthen B6.out hb7)
        clear hb7
        go_wp2_with fail
        refine (awake_any _ (hd.below B7.out) (hp.below B7.out) (hE.below B7.out)).mono ?_
        rintro e wz ⟨rfl, hbz⟩
        have BZ := Lib.hid (bthen B7.out hbz)
        clear hbz
        go_wp2_with fail
        go_ret
        exact ⟨rfl, BZ.out⟩
      · have hne : ((b.length : Int) == (l.length : Int)) = true := by rw [beq_iff_eq]; omega
        have HC6 := HC5
        have HBb6 := HBb5
        have B6 := B5
        go_wp2_with fail
        refine (same_any b b A5 A2 c5 c2 _ HC6.out HBb6.out (by omega) (by omega)).mono ?_
        rintro e w7 ⟨rfl, hb7⟩
        have B7 := Lib.hid (bthen B6.out hb7)
        clear hb7
        go_wp2_with fail
        refine (awake_any _ (hd.below B7.out) (hp.below B7.out) (hE.below B7.out)).mono ?_
        rintro e wz ⟨rfl, hbz⟩
        have BZ := Lib.hid (bthen B7.out hbz)
        clear hbz
        go_wp2_with fail
        go_ret
        exact ⟨rfl, BZ.out⟩

set_option maxRecDepth 100000 in
/-- What the walk gives, for every argument and every world that holds the listed variables. -/
theorem contract (H : Type) (enc : TypeId × Value → H) (W : World) (base : Nat) (args : Array Value) (ds gs : List (DataW H)) (before : List MemPlace)
    (hval : ∀ (j : Nat) t v, Tryd.f7.params[j]? = some t → args[j]? = some v → Value.okWide Tryd.prog W .any base t v)
    (hW : DataW.Whole enc Tryd.prog Tryd.f7.params.toList Rows.journalBackSpec.vars false W args.toList ds gs before) (hL : laidMetH Tryd.prog Rows.journalBackRow.laid W) :
    Calls Tryd.prog 7 args W fun e W' => ∃ v, e = .returned v ∧ Rows.journalBackSpec.post enc Tryd.prog Tryd.f7 false true false false W args v W' := by
  have hW' := hW
  obtain ⟨p, q, hA0, hV, rfl, hfz, hnd⟩ := hW
  obtain ⟨rfl, rfl⟩ := trodVars_none hV
  have hA1 : DataW.TrodAll enc Tryd.prog W 0 (fun _ => true) true Tryd.f7.params.toList args.toList ds (p ++ []) := by rw [List.append_nil]; exact hA0
  have hA : DataW.TrodAll enc Tryd.prog W 0 (fun _ => true) true Tryd.f7.params.toList args.toList ds p := hA0
  rw [Tryd.params7] at hA hval
  obtain ⟨v0, vs0, d0, ds0, p0, q0, hargs, rfl, rfl, h0, r0⟩ := trodAll_cons hA
  obtain ⟨v1, vs1, d1, ds1, p1, q1, rfl, rfl, rfl, h1, r1⟩ := trodAll_cons r0
  obtain ⟨rfl, rfl, rfl⟩ := trodAll_nil r1
  obtain rfl : args = #[v0, v1] := by cases args; simp_all
  obtain ⟨A0, l0, c0, rfl, hS0, hc0, hl0, _⟩ := open_strl Tryd.underlying23 Tryd.underlying9 (by kernel_rfl) (hval 0 23 v0 rfl rfl) h0
  obtain ⟨n1, rfl, rfl, rfl, wn1⟩ := open_int Tryd.underlying3 (hval 1 3 v1 rfl rfl) h1
  obtain ⟨_, _⟩ := bounds_i64 wn1
  obtain ⟨hd, hp, hE⟩ := laid_tabs hL
  refine (walk l0 A0 c0 n1 W hd hp hE hS0 hc0 hl0).mono fun e W' ⟨he, hb⟩ => ?_
  subst he
  exact ⟨_, rfl, law_post laidOut (by kernel_rfl) (by kernel_rfl) Tryd.underlying4 hW' rfl rfl hA1 hb⟩

set_option maxRecDepth 100000 in
theorem reads (w : World) {H : Type} (enc : TypeId × Value → H) : ∃ places, DataW.whole enc Tryd.prog w Tryd.f7.params.toList Rows.journalBackSpec.vars false #[Value.slice none 0 0, .int .i64 0].toList 8 = some ([.nil, .lit (.int .i64 0)], [], places) :=
  ⟨[], by kernel_rfl⟩
theorem args_ok (w : World) : Input.okWideB Tryd.prog w 7 ⟨#[], #[.slice none 0 0, .int .i64 0], []⟩ = true := by kernel_rfl
set_option maxRecDepth 100000 in
theorem lifted (os : Os) (started : os.Started) (H : Type) (enc : TypeId × Value → H) (F : Stop.Interp) :
    ReturnsInHanded {} Tryd.checked os 7 .any ((OpenSpec.ofChange Rows.journalBackSpec).preRow enc Tryd.prog Tryd.f7 Rows.journalBackRow.domain false Rows.journalBackRow.laid) (((OpenSpec.ofChange Rows.journalBackSpec).at F).post enc Tryd.prog Tryd.f7 false true false false) := by
  obtain ⟨places, hx⟩ := reads _ enc
  refine returnsInHanded_of_row (C := Tryd.checked) (s := OpenSpec.ofChange Rows.journalBackSpec) own started (by kernel_rfl) Tryd.func7
    (witness_row_at (enc := enc) (C := Tryd.checked) false (World.laidAll Tryd.prog os laidList) #[.slice none 0 0, .int .i64 0] (World.laidAll_os _ _ _) (w_hv os _) (w_hr os _) (args_ok _)
      (OpenSpec.preRow_of_cond 8 hx (by kernel_rfl) (fun k hk => by cases hk) (by kernel_rfl) (w_laid os _))) ?_
  intro W base args ds gs before hval hW _ _ _ hL _ _
  exact contract H enc W base args ds gs before hval hW hL

theorem said : Rows.JournalBackSaid :=
  OpenClaim.holds_of_cond 7 Tryd.f7 rfl rfl rfl rfl rfl rfl rfl ⟨rfl, rfl, rfl, rfl, rfl⟩ rfl rfl rfl rfl rfl (by kernel_rfl) Tryd.func7 (by kernel_rfl)
    (of_decide_eq_true (by kernel_rfl)) (by unfold Func.isWrapper; first | (rw [if_pos (by decide +kernel)]; kernel_rfl) | (rw [if_neg (by decide +kernel)]; exact ⟨rfl, rfl⟩))
    (fun os started H enc _ F => by rw [OpenClaim.pre_eq_preRow]; exact lifted os started H enc F)

theorem plain (f : FuncId) (fn : Func) (hf : Tryd.pinned.checked.prog.funcNamed Rows.journalBackRow.func = some f) (hfn : Tryd.pinned.checked.prog.funcs[f]? = some fn) :
    true = Tryd.pinned.checked.prog.looks [] ∧ ∀ (j : Nat) t, fn.params[j]? = some t → Tryd.pinned.checked.prog.wantsStandIn t = false := by
  obtain rfl : f = 7 := Option.some.inj ((show Tryd.prog.funcNamed Rows.journalBackRow.func = some 7 by kernel_rfl).symm.trans hf) |>.symm
  obtain rfl : fn = Tryd.f7 := (Option.some.inj (Tryd.func7.symm.trans hfn)).symm
  refine ⟨by kernel_rfl, fun j t ht => ?_⟩
  rw [Tryd.params7] at ht
  have hm : t ∈ [23, 3] := by simpa using Array.mem_of_getElem? ht
  have hall : ([23, 3].all fun u => !Tryd.prog.wantsStandIn u) = true := by kernel_rfl
  exact (show Tryd.prog.wantsStandIn t = false by simpa using List.all_eq_true.1 hall t hm)

theorem card : Rows.JournalBackCardSaid :=
  Claim7.holds_tied_plain_at .later [] _ _ _ _ said (fun _ h => by cases h) (by kernel_rfl) (fun _ h => by cases h) journalBack_row_tie rfl ⟨rfl, rfl⟩ (by kernel_rfl) rfl plain (by kernel_rfl)
end Go.Proofs.YtkhdhelhkokdcaaDoor.journalBack
