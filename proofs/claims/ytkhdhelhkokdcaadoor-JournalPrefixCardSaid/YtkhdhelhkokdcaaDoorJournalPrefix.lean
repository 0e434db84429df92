/- JournalPrefix: for every script and every number the law answers true and leaves its arguments alone; no condition. -/
import Derived.Lay
import Derived.Test.YtkhdhelhkokdcaaDoorCards
import Derived.Test.YtkhdhelhkokdcaaDoorTie
import Derived.Test.YtkhdhelhkokdcaaDoorJrnLaid
import Derived.Test.YtkhdhelhkokdcaaDoorJrnAwake
import Derived.Test.YtkhdhelhkokdcaaDoorJrnDo
import Derived.Test.YtkhdhelhkokdcaaDoorJrnFull
import Derived.Test.YtkhdhelhkokdcaaDoorOpenOps
namespace Go.Proofs.YtkhdhelhkokdcaaDoor.journalPrefix
open Go.ChangeShapes Go.WideShapes Go.ChangeAt Go.RowKit
open Go.ChangeMaps (open_string)


theorem light_facts {l : List (Int × Int × ByteArray)} (h : lightS l = true) : l.length ≤ 20 ∧ ∀ x ∈ l, x.2.2.size ≤ 300 := by
  rw [lightS, decide_eq_true_iff] at h; exact h
set_option maxHeartbeats 8000000 in
set_option maxRecDepth 100000 in
theorem walk (l : List (Int × Int × ByteArray)) (A : Option Addr) (c : Nat) (keep : Int) (w : World) (hd : DigOk w) (hp : PowOk w) (hE : ErrsOk w) (hS0 : OpsAt w A l) (_hc : l.length ≤ c) (hl : l.length ≤ 9223372036854775807) :
    Calls Tryd.prog 6 #[.slice A l.length c, .int .i64 keep] w fun e w' => e = .returned (.bool true) ∧ Below w.heap.size w w' := by
  have HS := Lib.hid hS0
  have B0 := Lib.hid (Below.refl w.heap.size w)
  clear hS0
  by_cases hli : lightS l = true
  · have HL := Lib.hid hli
    have hl20 := (light_facts hli).1
    have HZ3 := Lib.hid (light_facts hli).2
    clear hli
    go_enter Tryd.func6, Tryd.ntmps6
    go_wp2_with fail
    refine (light_any l A c _ HS.out hl).mono ?_
    rintro e wsame ⟨rfl, rfl⟩
    rw [HL.out]
    go_wp2_with fail
    refine (aj_new w _ B0.out).mono ?_
    rintro e w1 ⟨⟨g0, v0, rfl, hj1, _, _⟩, hb1⟩
    have J1 := Lib.hid hj1
    clear hj1 hb1
    go_wp2_with fail
    go_loopw [5, 6] (fun j i wr => ∃ (k g d : Nat) (v : Value) (rs : List ByteArray), k ≤ l.length ∧ i = .int .i64 k ∧ j = .pointer (some ⟨g, 0, none⟩) ∧ Hid (AJ w wr g v rs d) ∧ rs.length ≤ k ∧ (encL rs).length ≤ 400 * k) (fun _ i _ => l.length - (intOf i).toNat)
    case atStart => exact ⟨0, g0, 0, v0, [], Nat.zero_le _, rfl, rfl, J1, Nat.le_refl _, by simp [encL]⟩
    case round =>
      obtain ⟨k, g, d, v, rs, hk, rfl, rfl, HJ, hrl, hel⟩ := hrel
      by_cases hlt : k < l.length
      · obtain ⟨b, o, rfl, c1, c2, c3⟩ := (HS.out.below HJ.out.2) k hlt
        have hxz := HZ3.out _ (List.getElem_mem hlt)
        generalize l[k] = x at *
        obtain ⟨xc, xn, xs⟩ := x
        have c1' : _ = some (Value.int .i64 xc) := c1
        have c2' : _ = some (Value.int .i64 xn) := c2
        have c3' : _ = some (Value.string xs) := c3
        have hxs : xs.size ≤ 300 := hxz
        clear c1 c2 c3 hxz
        go_wp2_with fail
        refine (do_any xc xn xs w _ (hd.below HJ.out.2) (hp.below HJ.out.2) (hE.below HJ.out.2) g d v rs HJ.out (by omega) (by omega) (by omega)).mono ?_
        rintro e w2 ⟨g2, v2, l2, d2, r2, rfl, hj2, hop, _⟩
        have J2 := Lib.hid hj2
        obtain ⟨q1, q2⟩ := hop.bound HJ.out.1.2.2 hxs
        have q3 : l2.length ≤ k + 1 := by omega
        have q4 : (encL l2).length ≤ 400 * (k + 1) := by omega
        clear hj2 hop q1 q2 c1' c2' c3'
        go_wp2_with fail
        go_roundw
        case rel => exact ⟨k + 1, g2, d2, v2, l2, hlt, by go_num, rfl, J2, q3, q4⟩
        case measure => simp [intOf]; omega
      · have hkl : k ≤ 20 := by omega
        have hdl := HJ.out.1.2.1
        have HZ4 := Lib.hid HJ.out.1.2.2
        obtain ⟨T, hT, rfl⟩ : ∃ T, rs.take d = T ∧ d = T.length := ⟨_, rfl, by rw [List.length_take]; omega⟩
        have HT := Lib.hid hT
        have het := Nat.le_trans (enc_take (l := rs) T.length) hel
        rw [hT] at het
        have HET := Lib.hid het
        clear hT het
        go_wp2_with fail
        refine (aj_full w _ _ _ _ _ HJ.out (by omega)).mono ?_
        rintro e w2 ⟨⟨A2, rfl, hs2, hA2⟩, hb2⟩
        have HP2 : Hid (rs = [] ∨ Apart A2 w2 g v) := Lib.hid (apart_or HJ.out hs2 hA2)
        have J2 := Lib.hid (HJ.out.below hb2)
        have HS2 := Lib.hid hs2
        clear hb2 hs2 hA2
        go_wp2_with fail
        refine (aj_durable w _ _ _ _ _ J2.out).mono ?_
        rintro e wsame ⟨rfl, rfl⟩
        go_wp2_with fail
        refine (aj_bytes w _ (hd.below J2.out.2) (hp.below J2.out.2) _ _ _ _ J2.out (by omega)).mono ?_
        rintro e w3 ⟨rfl, hb3⟩
        rw [HT.out]
        have J3 := Lib.hid (J2.out.below hb3)
        have HS3 := Lib.hid (HS2.out.below hb3)
        have HP3 : Hid (rs = [] ∨ Apart A2 w3 g v) := Lib.hid (apart_below HP2.out hb3.size)
        clear hb3
        go_wp2_with fail
        refine (aj_open (encB T) w _ J3.out.2 (hd.below J3.out.2) (hp.below J3.out.2) (hE.below J3.out.2) (by have := HET.out; omega)).mono ?_
        rintro e w4 ⟨⟨l4, n4, hD4, g4, v4, rfl, hj4, _, _⟩, hb4⟩
        obtain rfl : T = l4 := (back_whole (fun r hr => HZ4.out r (by rw [← HT.out] at hr; exact List.mem_of_mem_take hr)) hD4).1.symm
        have O4 := Lib.hid hj4
        have J4 := Lib.hid (J3.out.below hb4)
        have HS4 := Lib.hid (HS3.out.below hb4)
        have HP4 : Hid (rs = [] ∨ Apart A2 w4 g v) := Lib.hid (apart_below HP3.out hb4.size)
        clear hb4 hj4 hD4
        have i1 : (0 : Int) ≤ (T.length : Int) := by omega
        have i2 : (T.length : Int) ≤ (rs.length : Int) := by omega
        have t1 : decide ((T.length : Int) < 0) = false := decide_eq_false (by omega)
        have t2 : decide ((rs.length : Int) < (T.length : Int)) = false := decide_eq_false (by omega)
        have t3 : decide (rs.length < T.length) = false := decide_eq_false (by omega)
        have HSM := Lib.hid (fun (wq : World) (A4 : Option Addr) (h1 : Strs wq A4 T) (h2 : Strs wq A2 T) => same_any T T A4 A2 T.length rs.length wq h1 h2 (by omega) (by omega))
        have HST : Hid (∀ wq, Strs wq A2 rs → Strs wq A2 T) := Lib.hid (fun wq h => by have h2 := strs_take h T.length; rwa [HT.out] at h2)
        go_wp2_with fail
        go_region_held3 (fun _ => True) (trivial)
          (first
            | (go_at_call 18; refine (aj_full w _ g4 T.length v4 T ?_ ?_).mono ?_; exact O4.out.below (Below.refl _ _).drew; omega; rintro e w5 ⟨⟨A5, rfl, hs5, hA5⟩, hb5⟩; have HS5 := Lib.hid hs5; have B5 := Lib.hid hb5; clear hs5 hb5 hA5)
            | (go_at_call 14; refine (HSM.out _ _ ?_ ?_).mono ?_; exact HS5.out; exact HST.out _ (HS4.out.drew.below B5.out); rintro e w6 ⟨rfl, hb6⟩)
            | fail)
        clear t1 t2 t3
        have BJ : Hid (Below w4.heap.size w4 w6) := Lib.hid (((Below.refl _ _).drew.trans B5.out).trans (hb6.mono B5.out.size))
        have J6 := Lib.hid (J4.out.below BJ.out)
        have HS6 := Lib.hid (HS4.out.below BJ.out)
        have HP6 : Hid (rs = [] ∨ Apart A2 w6 g v) := Lib.hid (apart_below HP4.out BJ.out.size)
        clear hb6 HS5 B5 HSM
        have td : decide (T = T) = true := decide_eq_true rfl
        go_wp2_with fail
        refine (aj_crash keep w _ (hd.below J6.out.2) (hp.below J6.out.2) (hE.below J6.out.2) _ _ _ _ J6.out (by omega)).mono ?_
        rintro e w7 ⟨rfl, m7, hm7, v7, hj7, ho7, hf7⟩
        have hpre := take_drop_pre (left_pre HZ4.out hm7)
        rw [HT.out] at hpre hj7
        have HS7 := Lib.hid (HS6.out.step HP6.out ho7)
        obtain ⟨U, hU⟩ : ∃ U, T ++ m7 = U := ⟨_, rfl⟩
        have hTU : T.length ≤ U.length := by rw [← hU, List.length_append]; omega
        rw [hU] at hpre hj7
        have hUl := hpre.length_le
        have HUT : Hid (rs.take U.length = U) := Lib.hid (List.prefix_iff_eq_take.1 hpre).symm
        have J7 := Lib.hid hj7
        clear hj7 ho7 hf7 hm7 hU hpre
        go_wp2_with fail
        refine (aj_full w _ _ _ _ _ J7.out (by omega)).mono ?_
        rintro e w8 ⟨⟨A8, rfl, hs8, _⟩, hb8⟩
        have J8 := Lib.hid (J7.out.below hb8)
        have HS8 := Lib.hid hs8
        have HR8 : Hid (Strs w8 A2 U) := Lib.hid (by have h := strs_take (HS7.out.below hb8) U.length; rwa [HUT.out] at h)
        clear hs8 hb8
        have u1 : (0 : Int) ≤ (U.length : Int) := by omega
        have u2 : (U.length : Int) ≤ (rs.length : Int) := by omega
        have u3 : (T.length : Int) ≤ (U.length : Int) := by omega
        go_wp2_with fail
        refine (same_any U U A8 A2 U.length rs.length _ HS8.out HR8.out (by omega) (by omega)).mono ?_
        rintro e w9 ⟨rfl, hb9⟩
        have J9 := Lib.hid (J8.out.below hb9)
        clear hb9
        go_wp2_with fail
        refine (aj_durable w _ _ _ _ _ J9.out).mono ?_
        rintro e wsame ⟨rfl, rfl⟩
        go_wp2_with fail
        refine (awake_any _ (hd.below J9.out.2) (hp.below J9.out.2) (hE.below J9.out.2)).mono ?_
        rintro e wz ⟨rfl, hbz⟩
        have JZ := Lib.hid (J9.out.below hbz)
        clear hbz
        go_wp2_with fail
        go_ret
        exact ⟨rfl, JZ.out.2⟩
  · have HL : Hid (lightS l = false) := Lib.hid (by simpa using hli)
    clear hli
    go_enter Tryd.func6, Tryd.ntmps6
    go_wp2_with fail
    refine (light_any l A c _ HS.out hl).mono ?_
    rintro e wsame ⟨rfl, rfl⟩
    rw [HL.out]
    go_wp2_with fail
    refine (awake_any _ hd hp hE).mono ?_
    rintro e wz ⟨rfl, hbz⟩
    have BZ := Lib.hid hbz
    clear hbz
    go_wp2_with fail
    go_ret
    exact ⟨rfl, BZ.out⟩

set_option maxRecDepth 100000 in
/-- What the walk gives, for every argument and every world that holds the listed variables. -/
theorem contract (H : Type) (enc : TypeId × Value → H) (W : World) (base : Nat) (args : Array Value) (ds gs : List (DataW H)) (before : List MemPlace)
    (hval : ∀ (j : Nat) t v, Tryd.f6.params[j]? = some t → args[j]? = some v → Value.okWide Tryd.prog W .any base t v)
    (hW : DataW.Whole enc Tryd.prog Tryd.f6.params.toList Rows.journalPrefixSpec.vars false W args.toList ds gs before) (hL : laidMetH Tryd.prog Rows.journalPrefixRow.laid W) :
    Calls Tryd.prog 6 args W fun e W' => ∃ v, e = .returned v ∧ Rows.journalPrefixSpec.post enc Tryd.prog Tryd.f6 false true false false W args v W' := by
  have hW' := hW
  obtain ⟨p, q, hA0, hV, rfl, hfz, hnd⟩ := hW
  obtain ⟨rfl, rfl⟩ := trodVars_none hV
  have hA1 : DataW.TrodAll enc Tryd.prog W 0 (fun _ => true) true Tryd.f6.params.toList args.toList ds (p ++ []) := by rw [List.append_nil]; exact hA0
  have hA : DataW.TrodAll enc Tryd.prog W 0 (fun _ => true) true Tryd.f6.params.toList args.toList ds p := hA0
  rw [Tryd.params6] at hA hval
  obtain ⟨v0, vs0, d0, ds0, p0, q0, hargs, rfl, rfl, h0, r0⟩ := trodAll_cons hA
  obtain ⟨v1, vs1, d1, ds1, p1, q1, rfl, rfl, rfl, h1, r1⟩ := trodAll_cons r0
  obtain ⟨rfl, rfl, rfl⟩ := trodAll_nil r1
  obtain rfl : args = #[v0, v1] := by cases args; simp_all
  obtain ⟨A0, l0, c0, rfl, hS0, hc0, hl0⟩ := open_ops Tryd.underlying29 Tryd.underlying41 (by kernel_rfl) rfl rfl rfl Tryd.underlying3 Tryd.underlying3 Tryd.underlying9 (by kernel_rfl) (by kernel_rfl) (by kernel_rfl) (hval 0 29 v0 rfl rfl) h0
  obtain ⟨n1, rfl, rfl, rfl, wn1⟩ := open_int Tryd.underlying3 (hval 1 3 v1 rfl rfl) h1
  obtain ⟨_, _⟩ := bounds_i64 wn1
  obtain ⟨hd, hp, hE⟩ := laid_tabs hL
  refine (walk l0 A0 c0 n1 W hd hp hE hS0 hc0 hl0).mono fun e W' ⟨he, hb⟩ => ?_
  subst he
  exact ⟨_, rfl, law_post laidOut (by kernel_rfl) (by kernel_rfl) Tryd.underlying4 hW' rfl rfl hA1 hb⟩

set_option maxRecDepth 100000 in
theorem reads (w : World) {H : Type} (enc : TypeId × Value → H) : ∃ places, DataW.whole enc Tryd.prog w Tryd.f6.params.toList Rows.journalPrefixSpec.vars false #[Value.slice none 0 0, .int .i64 0].toList 8 = some ([.nil, .lit (.int .i64 0)], [], places) :=
  ⟨[], by kernel_rfl⟩
theorem args_ok (w : World) : Input.okWideB Tryd.prog w 6 ⟨#[], #[.slice none 0 0, .int .i64 0], []⟩ = true := by kernel_rfl
set_option maxRecDepth 100000 in
theorem lifted (os : Os) (started : os.Started) (H : Type) (enc : TypeId × Value → H) (F : Stop.Interp) :
    ReturnsInHanded {} Tryd.checked os 6 .any ((OpenSpec.ofChange Rows.journalPrefixSpec).preRow enc Tryd.prog Tryd.f6 Rows.journalPrefixRow.domain false Rows.journalPrefixRow.laid) (((OpenSpec.ofChange Rows.journalPrefixSpec).at F).post enc Tryd.prog Tryd.f6 false true false false) := by
  obtain ⟨places, hx⟩ := reads _ enc
  refine returnsInHanded_of_row (C := Tryd.checked) (s := OpenSpec.ofChange Rows.journalPrefixSpec) own started (by kernel_rfl) Tryd.func6
    (witness_row_at (enc := enc) (C := Tryd.checked) false (World.laidAll Tryd.prog os laidList) #[.slice none 0 0, .int .i64 0] (World.laidAll_os _ _ _) (w_hv os _) (w_hr os _) (args_ok _)
      (OpenSpec.preRow_of_cond 8 hx (by kernel_rfl) (fun k hk => by cases hk) (by kernel_rfl) (w_laid os _))) ?_
  intro W base args ds gs before hval hW _ _ _ hL _ _
  exact contract H enc W base args ds gs before hval hW hL

theorem said : Rows.JournalPrefixSaid :=
  OpenClaim.holds_of_cond 6 Tryd.f6 rfl rfl rfl rfl rfl rfl rfl ⟨rfl, rfl, rfl, rfl, rfl⟩ rfl rfl rfl rfl rfl (by kernel_rfl) Tryd.func6 (by kernel_rfl)
    (of_decide_eq_true (by kernel_rfl)) (by unfold Func.isWrapper; first | (rw [if_pos (by decide +kernel)]; kernel_rfl) | (rw [if_neg (by decide +kernel)]; exact ⟨rfl, rfl⟩))
    (fun os started H enc _ F => by rw [OpenClaim.pre_eq_preRow]; exact lifted os started H enc F)

theorem plain (f : FuncId) (fn : Func) (hf : Tryd.pinned.checked.prog.funcNamed Rows.journalPrefixRow.func = some f) (hfn : Tryd.pinned.checked.prog.funcs[f]? = some fn) :
    true = Tryd.pinned.checked.prog.looks [] ∧ ∀ (j : Nat) t, fn.params[j]? = some t → Tryd.pinned.checked.prog.wantsStandIn t = false := by
  obtain rfl : f = 6 := Option.some.inj ((show Tryd.prog.funcNamed Rows.journalPrefixRow.func = some 6 by kernel_rfl).symm.trans hf) |>.symm
  obtain rfl : fn = Tryd.f6 := (Option.some.inj (Tryd.func6.symm.trans hfn)).symm
  refine ⟨by kernel_rfl, fun j t ht => ?_⟩
  rw [Tryd.params6] at ht
  have hm : t ∈ [29, 3] := by simpa using Array.mem_of_getElem? ht
  have hall : ([29, 3].all fun u => !Tryd.prog.wantsStandIn u) = true := by kernel_rfl
  exact (show Tryd.prog.wantsStandIn t = false by simpa using List.all_eq_true.1 hall t hm)

theorem card : Rows.JournalPrefixCardSaid :=
  Claim7.holds_tied_plain_at .later [] _ _ _ _ said (fun _ h => by cases h) (by kernel_rfl) (fun _ h => by cases h) journalPrefix_row_tie rfl ⟨rfl, rfl⟩ (by kernel_rfl) rfl plain (by kernel_rfl)
end Go.Proofs.YtkhdhelhkokdcaaDoor.journalPrefix
