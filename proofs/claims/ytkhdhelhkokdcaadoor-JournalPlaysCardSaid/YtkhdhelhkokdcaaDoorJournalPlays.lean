/- JournalPlays: for every string and every script the law answers true and leaves its arguments alone; no condition. -/
import Derived.Lay
import Derived.Test.YtkhdhelhkokdcaaDoorCards
import Derived.Test.YtkhdhelhkokdcaaDoorTie
import Derived.Test.YtkhdhelhkokdcaaDoorJrnLaid
import Derived.Test.YtkhdhelhkokdcaaDoorJrnAwake
import Derived.Test.YtkhdhelhkokdcaaDoorJrnTwo
import Derived.Test.YtkhdhelhkokdcaaDoorJrnDone
import Derived.Test.YtkhdhelhkokdcaaDoorJrnFull
import Derived.Test.YtkhdhelhkokdcaaDoorOpenOps
namespace Go.Proofs.YtkhdhelhkokdcaaDoor.journalPlays
open Go.ChangeShapes Go.WideShapes Go.ChangeAt Go.RowKit
open Go.ChangeMaps (open_string)


theorem light_facts {l : List (Int × Int × ByteArray)} (h : lightS l = true) : l.length ≤ 20 ∧ ∀ x ∈ l, x.2.2.size ≤ 300 := by
  rw [lightS, decide_eq_true_iff] at h; exact h
set_option maxHeartbeats 8000000 in
set_option maxRecDepth 100000 in
theorem walk (s : ByteArray) (l : List (Int × Int × ByteArray)) (A : Option Addr) (c : Nat) (w : World) (hd : DigOk w) (hp : PowOk w) (hE : ErrsOk w) (hS0 : OpsAt w A l) (_hc : l.length ≤ c) (hl : l.length ≤ 9223372036854775807) :
    Calls Tryd.prog 4 #[.string s, .slice A l.length c] w fun e w' => e = .returned (.bool true) ∧ Below w.heap.size w w' := by
  have HS := Lib.hid hS0
  have B0 := Lib.hid (Below.refl w.heap.size w)
  clear hS0
  have HLI := Lib.hid (light_any l A c w HS.out hl)
  by_cases hli : lightS l = true
  · have HL := Lib.hid hli
    have hl20 := (light_facts hli).1
    have HZ3 := Lib.hid (light_facts hli).2
    clear hli
    by_cases hsz : 1000 < s.size
    · go_enter Tryd.func4, Tryd.ntmps4
      go_wp2_with fail
      refine (Calls.mono HLI.out ?_)
      rintro e wsame ⟨rfl, rfl⟩
      rw [HL.out]
      go_wp2_with fail
      refine (awake_any _ hd hp hE).mono ?_
      rintro e wz ⟨rfl, hbz⟩
      have BZ := Lib.hid hbz
      clear hbz
      go_wp2_with fail
      go_ret
      exact ⟨rfl, BZ.out⟩
    · go_enter Tryd.func4, Tryd.ntmps4
      go_wp2_with fail
      refine (Calls.mono HLI.out ?_)
      rintro e wsame ⟨rfl, rfl⟩
      rw [HL.out]
      clear HLI
      go_wp2_with fail
      refine (aj_open s w _ B0.out hd hp hE (by omega)).mono ?_
      rintro e w1 ⟨⟨l1, n1, hD1, g1, v1, rfl, hj1, _, _⟩, hb1⟩
      have J1 := Lib.hid hj1
      have HD1 := Lib.hid hD1
      clear hj1 hb1 hD1
      go_wp2_with fail
      refine (ropen_any s _ (by omega)).mono ?_
      rintro e w2 ⟨⟨l2, n2, hD2, g2, v2, rfl, hj2⟩, hb2⟩
      obtain rfl : l1 = l2 := (HD1.out.one hD2).1
      have T2 := Lib.hid (Two.new J1.out hj2 hb2)
      have hb52 : l1.length ≤ 52 := by have h1 := HD1.out.len.1; have h2 := HD1.out.le; omega
      have hb1000 : (encL l1).length ≤ 1000 := by have h1 := HD1.out.len.2; have h2 := HD1.out.le; omega
      clear hj2 hb2 hD2 HD1 J1
      go_wp2_with fail
      go_loopw [5, 6, 7] (fun j q i wr => ∃ (k g d g2 : Nat) (v v2 : Value) (rs : List ByteArray), k ≤ l.length ∧ i = .int .i64 k ∧ j = .pointer (some ⟨g, 0, none⟩) ∧ q = .pointer (some ⟨g2, 0, none⟩) ∧ Hid (Two w wr g v rs d g2 v2 rs d) ∧ rs.length ≤ 52 + k ∧ (encL rs).length ≤ 1000 + 400 * k) (fun _ _ i _ => l.length + 1 - (intOf i).toNat)
      case atStart => exact ⟨0, g1, l1.length, g2, v1, v2, l1, Nat.zero_le _, rfl, rfl, rfl, T2, by omega, by omega⟩
      case round =>
        obtain ⟨k, g, d, g', v, v', rs, hk, rfl, rfl, rfl, HT, hrl, hel⟩ := hrel
        have HZ4 := Lib.hid HT.out.1.1.2.2
        go_wp2_with fail
        refine (aj_records w _ _ _ _ _ HT.out.1 (by omega)).mono ?_
        rintro e w3 ⟨⟨A3, c3, rfl, hs3, _⟩, hb3⟩
        have T3 := Lib.hid (HT.out.below hb3)
        have HS3 := Lib.hid hs3
        clear hb3 hs3
        go_wp2_with fail
        refine (rrecords_any _ _ _ _ _ _ T3.out.2.1 (by omega)).mono ?_
        rintro e w4 ⟨⟨A4, c4, rfl, hs4, _⟩, hb4⟩
        have T4 := Lib.hid (T3.out.below hb4)
        have HS4 := Lib.hid hs4
        have HR4 := Lib.hid (HS3.out.below hb4)
        clear hb4 hs4
        go_wp2_with fail
        refine (same_any rs rs A3 A4 c3 c4 _ HR4.out HS4.out (by omega) (by omega)).mono ?_
        rintro e w5 ⟨rfl, hb5⟩
        have T5 := Lib.hid (T4.out.below hb5)
        clear hb5
        go_wp2_with fail
        refine (aj_durable w _ _ _ _ _ T5.out.1).mono ?_
        rintro e wsame ⟨rfl, rfl⟩
        go_wp2_with fail
        refine (rdurable_any _ _ _ _ _ _ T5.out.2.1).mono ?_
        rintro e wsame ⟨rfl, rfl⟩
        go_wp2_with fail
        refine (aj_bytes w _ (hd.below T5.out.1.2) (hp.below T5.out.1.2) _ _ _ _ T5.out.1 (by omega)).mono ?_
        rintro e w6 ⟨rfl, hb6⟩
        have T6 := Lib.hid (T5.out.below hb6)
        obtain ⟨Y, HY⟩ : ∃ Y, Hid (encB (rs.take d) = Y) := ⟨_, Lib.hid rfl⟩
        rw [HY.out]
        clear hb6
        go_wp2_with fail
        refine (rbytes2_any _ _ _ _ _ _ T6.out.2.1 (by omega)).mono ?_
        rintro e w7 ⟨rfl, hb7⟩
        rw [HY.out]
        have T7 := Lib.hid (T6.out.below hb7)
        clear hb7
        by_cases hlt : k < l.length
        · obtain ⟨b, o, rfl, c1, c2, c3⟩ := (HS.out.below T7.out.1.2) k hlt
          have hxz := HZ3.out _ (List.getElem_mem hlt)
          have HXE : Hid (∃ x, x = l[k]) := Lib.hid ⟨_, rfl⟩
          obtain ⟨x, hx⟩ := HXE.out
          rw [← hx] at c1 c2 c3 hxz
          have HLK := Lib.hid hx
          clear hx HXE
          obtain ⟨xc, xn, xs⟩ := x
          have c1' : _ = some (Value.int .i64 xc) := c1
          have c2' : _ = some (Value.int .i64 xn) := c2
          have c3' : _ = some (Value.string xs) := c3
          have hxs : xs.size ≤ 300 := hxz
          have hne : ((k : Int) == (l.length : Int)) = false := by rw [beq_eq_false_iff_ne]; omega
          clear c1 c2 c3 hxz
          go_wp2_with fail
          refine (do_any xc xn xs w _ (hd.below T7.out.1.2) (hp.below T7.out.1.2) (hE.below T7.out.1.2) g d v rs T7.out.1 (by omega) (by omega) (by omega)).mono ?_
          rintro e w8 ⟨g8, v8, l8, d8, r8, rfl, hj8, hop8, hm8⟩
          have T8 := Lib.hid (T7.out.do hj8 hm8)
          have HOP := Lib.hid hop8
          obtain ⟨q1, q2⟩ := hop8.bound HZ4.out hxs
          have q3 : l8.length ≤ 52 + (k + 1) := by omega
          have q4 : (encL l8).length ≤ 1000 + 400 * (k + 1) := by omega
          clear hj8 hop8 hm8 q1 q2 c1' c2' c3'
          obtain ⟨b', o', hbo, e1, e2, e3⟩ := (HS.out.below T8.out.1.2) k hlt
          injection hbo with hbo
          injection hbo with hbo1 hbo2
          subst hbo1
          subst hbo2
          rw [← HLK.out] at e1 e2 e3
          have e1' : _ = some (Value.int .i64 xc) := e1
          have e2' : _ = some (Value.int .i64 xn) := e2
          have e3' : _ = some (Value.string xs) := e3
          clear e1 e2 e3
          go_wp2_with fail
          refine (done_any xc xn xs w _ g' d v' rs T8.out.1.2.size T8.out.2.1 (by omega) (by omega) (by omega)).mono ?_
          rintro e w9 ⟨g9, v9, l9, d9, r9, rfl, hj9, hop9, hm9⟩
          obtain ⟨h1, h2, h3⟩ := HOP.out.one hop9
          subst h1
          subst h2
          subst h3
          have T9 := Lib.hid (T8.out.done hj9 hm9)
          clear hj9 hop9 hm9 e1' e2' e3' HOP
          go_wp2_with fail
          go_roundw
          case rel => exact ⟨k + 1, g8, d8, g9, v8, v9, l8, hlt, by go_num, rfl, rfl, T9, q3, q4⟩
          case measure => simp [intOf]; omega
        · have hne : ((k : Int) == (l.length : Int)) = true := by rw [beq_iff_eq]; omega
          go_wp2_with fail
          refine (awake_any _ (hd.below T7.out.1.2) (hp.below T7.out.1.2) (hE.below T7.out.1.2)).mono ?_
          rintro e wz ⟨rfl, hbz⟩
          have TZ := Lib.hid (T7.out.below hbz)
          clear hbz
          go_wp2_with fail
          go_ret
          exact ⟨rfl, TZ.out.1.2⟩
  · have HL : Hid (lightS l = false) := Lib.hid (by simpa using hli)
    clear hli
    go_enter Tryd.func4, Tryd.ntmps4
    go_wp2_with fail
    refine (Calls.mono HLI.out ?_)
    rintro e wsame ⟨rfl, rfl⟩
    rw [HL.out]
    go_wp2_with fail
    refine (awake_any _ hd hp hE).mono ?_
    rintro e wz ⟨rfl, hbz⟩
    have BZ := Lib.hid hbz
    clear hbz
    go_wp2_with fail
    go_ret
    exact ⟨rfl, BZ.out⟩

set_option maxRecDepth 100000 in
/-- What the walk gives, for every argument and every world that holds the listed variables. -/
theorem contract (H : Type) (enc : TypeId × Value → H) (W : World) (base : Nat) (args : Array Value) (ds gs : List (DataW H)) (before : List MemPlace)
    (hval : ∀ (j : Nat) t v, Tryd.f4.params[j]? = some t → args[j]? = some v → Value.okWide Tryd.prog W .any base t v)
    (hW : DataW.Whole enc Tryd.prog Tryd.f4.params.toList Rows.journalPlaysSpec.vars false W args.toList ds gs before) (hL : laidMetH Tryd.prog Rows.journalPlaysRow.laid W) :
    Calls Tryd.prog 4 args W fun e W' => ∃ v, e = .returned v ∧ Rows.journalPlaysSpec.post enc Tryd.prog Tryd.f4 false true false false W args v W' := by
  have hW' := hW
  obtain ⟨p, q, hA0, hV, rfl, hfz, hnd⟩ := hW
  obtain ⟨rfl, rfl⟩ := trodVars_none hV
  have hA1 : DataW.TrodAll enc Tryd.prog W 0 (fun _ => true) true Tryd.f4.params.toList args.toList ds (p ++ []) := by rw [List.append_nil]; exact hA0
  have hA : DataW.TrodAll enc Tryd.prog W 0 (fun _ => true) true Tryd.f4.params.toList args.toList ds p := hA0
  rw [Tryd.params4] at hA hval
  obtain ⟨v0, vs0, d0, ds0, p0, q0, hargs, rfl, rfl, h0, r0⟩ := trodAll_cons hA
  obtain ⟨v1, vs1, d1, ds1, p1, q1, rfl, rfl, rfl, h1, r1⟩ := trodAll_cons r0
  obtain ⟨rfl, rfl, rfl⟩ := trodAll_nil r1
  obtain rfl : args = #[v0, v1] := by cases args; simp_all
  obtain ⟨s0, rfl, rfl, rfl, hs0⟩ := open_string Tryd.underlying9 (hval 0 9 v0 rfl rfl) h0
  have hs0 : s0.size ≤ 9223372036854775807 := by unfold maxLen at hs0; exact hs0
  obtain ⟨A1, l1, c1, rfl, hS1, hc1, hl1⟩ := open_ops Tryd.underlying29 Tryd.underlying41 (by kernel_rfl) rfl rfl rfl Tryd.underlying3 Tryd.underlying3 Tryd.underlying9 (by kernel_rfl) (by kernel_rfl) (by kernel_rfl) (hval 1 29 v1 rfl rfl) h1
  obtain ⟨hd, hp, hE⟩ := laid_tabs hL
  refine (walk s0 l1 A1 c1 W hd hp hE hS1 hc1 hl1).mono fun e W' ⟨he, hb⟩ => ?_
  subst he
  exact ⟨_, rfl, law_post laidOut (by kernel_rfl) (by kernel_rfl) Tryd.underlying4 hW' rfl rfl hA1 hb⟩

set_option maxRecDepth 100000 in
theorem reads (w : World) {H : Type} (enc : TypeId × Value → H) : ∃ places, DataW.whole enc Tryd.prog w Tryd.f4.params.toList Rows.journalPlaysSpec.vars false #[Value.string ByteArray.empty, .slice none 0 0].toList 8 = some ([.lit (.string []), .nil], [], places) :=
  ⟨[], by kernel_rfl⟩
theorem args_ok (w : World) : Input.okWideB Tryd.prog w 4 ⟨#[], #[.string ByteArray.empty, .slice none 0 0], []⟩ = true := by kernel_rfl
set_option maxRecDepth 100000 in
theorem lifted (os : Os) (started : os.Started) (H : Type) (enc : TypeId × Value → H) (F : Stop.Interp) :
    ReturnsInHanded {} Tryd.checked os 4 .any ((OpenSpec.ofChange Rows.journalPlaysSpec).preRow enc Tryd.prog Tryd.f4 Rows.journalPlaysRow.domain false Rows.journalPlaysRow.laid) (((OpenSpec.ofChange Rows.journalPlaysSpec).at F).post enc Tryd.prog Tryd.f4 false true false false) := by
  obtain ⟨places, hx⟩ := reads _ enc
  refine returnsInHanded_of_row (C := Tryd.checked) (s := OpenSpec.ofChange Rows.journalPlaysSpec) own started (by kernel_rfl) Tryd.func4
    (witness_row_at (enc := enc) (C := Tryd.checked) false (World.laidAll Tryd.prog os laidList) #[.string ByteArray.empty, .slice none 0 0] (World.laidAll_os _ _ _) (w_hv os _) (w_hr os _) (args_ok _)
      (OpenSpec.preRow_of_cond 8 hx (by kernel_rfl) (fun k hk => by cases hk) (by kernel_rfl) (w_laid os _))) ?_
  intro W base args ds gs before hval hW _ _ _ hL _ _
  exact contract H enc W base args ds gs before hval hW hL

theorem said : Rows.JournalPlaysSaid :=
  OpenClaim.holds_of_cond 4 Tryd.f4 rfl rfl rfl rfl rfl rfl rfl ⟨rfl, rfl, rfl, rfl, rfl⟩ rfl rfl rfl rfl rfl (by kernel_rfl) Tryd.func4 (by kernel_rfl)
    (of_decide_eq_true (by kernel_rfl)) (by unfold Func.isWrapper; first | (rw [if_pos (by decide +kernel)]; kernel_rfl) | (rw [if_neg (by decide +kernel)]; exact ⟨rfl, rfl⟩))
    (fun os started H enc _ F => by rw [OpenClaim.pre_eq_preRow]; exact lifted os started H enc F)

theorem plain (f : FuncId) (fn : Func) (hf : Tryd.pinned.checked.prog.funcNamed Rows.journalPlaysRow.func = some f) (hfn : Tryd.pinned.checked.prog.funcs[f]? = some fn) :
    true = Tryd.pinned.checked.prog.looks [] ∧ ∀ (j : Nat) t, fn.params[j]? = some t → Tryd.pinned.checked.prog.wantsStandIn t = false := by
  obtain rfl : f = 4 := Option.some.inj ((show Tryd.prog.funcNamed Rows.journalPlaysRow.func = some 4 by kernel_rfl).symm.trans hf) |>.symm
  obtain rfl : fn = Tryd.f4 := (Option.some.inj (Tryd.func4.symm.trans hfn)).symm
  refine ⟨by kernel_rfl, fun j t ht => ?_⟩
  rw [Tryd.params4] at ht
  have hm : t ∈ [9, 29] := by simpa using Array.mem_of_getElem? ht
  have hall : ([9, 29].all fun u => !Tryd.prog.wantsStandIn u) = true := by kernel_rfl
  exact (show Tryd.prog.wantsStandIn t = false by simpa using List.all_eq_true.1 hall t hm)

theorem card : Rows.JournalPlaysCardSaid :=
  Claim7.holds_tied_plain_at .later [] _ _ _ _ said (fun _ h => by cases h) (by kernel_rfl) (fun _ h => by cases h) journalPlays_row_tie rfl ⟨rfl, rfl⟩ (by kernel_rfl) rfl plain (by kernel_rfl)
end Go.Proofs.YtkhdhelhkokdcaaDoor.journalPlays
