/- AuditLogs: for every list of events, every tenant and every index the law answers true and leaves its arguments alone; no condition. -/
import Derived.Lay
import Derived.Test.YthdpkfddmkijlaaGreatDoorCards
import Derived.Test.YthdpkfddmkijlaaGreatDoorTie
import Derived.Test.YthdpkfddmkijlaaGreatDoorSeg10
import Derived.Test.YthdpkfddmkijlaaGreatDoorSeg9
import Derived.Test.YthdpkfddmkijlaaGreatDoorSeg7
import Derived.Test.YthdpkfddmkijlaaGreatDoorSeg8
import Derived.Test.YthdpkfddmkijlaaGreatDoorSeg5
namespace Go.Proofs.YthdpkfddmkijlaaGreatDoor.auditLogs
open Go.ChangeShapes Go.WideShapes Go.ChangeAt Go.RowKit
open Go.ChangeMaps (open_string)


set_option maxHeartbeats 8000000 in
set_option maxRecDepth 100000 in
theorem walk (l : List Ev) (A : Option Addr) (c : Nat) (s : ByteArray) (n : Int) (w : World) (hd : DigOk w) (hp : PowOk w) (hE : ErrsOk w) (hS : EvsAt w A l) (hin : ∀ x ∈ l, EvIn x) (hl : l.length ≤ 9223372036854775807) :
    Calls Tryz.prog 5 #[.slice A l.length c, .string s, .int .i64 n] w fun e w' => e = .returned (.bool true) ∧ Below w.heap.size w w' := by
  have HS := Lib.hid hS
  have HIN := Lib.hid hin
  have B0 := Lib.hid (Below.refl w.heap.size w)
  clear hS hin
  have HLI := Lib.hid (light_any l A c w HS.out hl)
  by_cases hli : lightB l = true
  · have HL := Lib.hid hli
    have hl16 := (lightB_facts hli).1
    clear hli
    by_cases hsz : 200 < s.size
    · have t1 : decide ((200 : Int) < (s.size : Int)) = true := decide_eq_true (by omega)
      go_enter Tryz.func5, Tryz.ntmps5
      go_wp2_with fail
      refine (Calls.mono HLI.out ?_)
      rintro e wsame ⟨rfl, rfl⟩
      rw [HL.out]
      go_wp2_with fail
      refine (awake_any _ (hd.below B0.out) (hp.below B0.out) (hE.below B0.out)).mono ?_
      rintro e w1 ⟨rfl, hb1⟩
      have B1 := Lib.hid (bthen B0.out hb1)
      have G1 := Lib.hid hb1
      clear hb1
      go_wp2_with fail
      go_ret
      exact ⟨rfl, B1.out⟩
    · have t1 : decide ((200 : Int) < (s.size : Int)) = false := decide_eq_false (by omega)
      go_enter Tryz.func5, Tryz.ntmps5
      go_wp2_with fail
      refine (Calls.mono HLI.out ?_)
      rintro e wsame ⟨rfl, rfl⟩
      rw [HL.out]
      clear HLI
      go_wp2_with fail
      refine (lnew_any _ hd).mono ?_
      rintro e w1 ⟨⟨g, vL0, vS0, rfl, hn1⟩, hb1⟩
      have N1 := Lib.hid hn1
      have B1 := Lib.hid hb1
      clear hn1 hb1
      go_wp2_with fail
      refine (rlnew_any _).mono ?_
      rintro e w2 ⟨⟨g', v0, rfl, hn2⟩, hb2⟩
      have T2 := Lib.hid (TwoL.new N1.out B1.out hn2 hb2)
      clear hn2 hb2 N1 B1
      go_wp2_with fail
      go_loopw [9] (fun i wr => ∃ (k : Nat) (vL vS v : Value) (m : List Ev), k ≤ l.length ∧ i = .int .i64 k ∧ Hid (TwoL w wr g vL vS m g' v m) ∧ m.length ≤ k) (fun i _ => l.length - (intOf i).toNat)
      case atStart => exact ⟨0, vL0, vS0, v0, [], Nat.zero_le _, rfl, T2, Nat.le_refl _⟩
      case round =>
        obtain ⟨k, vL, vS, v, m, hk, rfl, HT, hm⟩ := hrel
        by_cases hlt : k < l.length
        · obtain ⟨b, o, rfl, c0, c1, c2, c3, c4, c5⟩ := (HS.out.below HT.out.base) k hlt
          have HC0 := Lib.hid (HS.out k hlt)
          have hxi := HIN.out _ (List.getElem_mem hlt)
          obtain ⟨x, HXE⟩ : ∃ x, Hid (l[k] = x) := ⟨_, Lib.hid rfl⟩
          rw [HXE.out] at c0 c1 c2 c3 c4 c5 hxi HC0
          obtain ⟨t, tn, ac, an, ob, r⟩ := x
          have HX := Lib.hid hxi
          have d0 : _ = some (Value.int .i64 t) := c0
          have d1 : _ = some (Value.string tn) := c1
          have d2 : _ = some (Value.string ac) := c2
          have d3 : _ = some (Value.string an) := c3
          have d4 : _ = some (Value.string ob) := c4
          have d5 : _ = some (Value.int .i64 r) := c5
          clear c0 c1 c2 c3 c4 c5 hxi
          obtain ⟨E, HEE⟩ : ∃ E, Hid (lineE ⟨t, tn, ac, an, ob, r⟩ = E) := ⟨_, Lib.hid rfl⟩
          obtain ⟨M, HM⟩ : ∃ M, Hid (addE m ⟨t, tn, ac, an, ob, r⟩ = M) := ⟨_, Lib.hid rfl⟩
          obtain ⟨H, HH⟩ : ∃ H, Hid (headF startS M = H) := ⟨_, Lib.hid rfl⟩
          have hML : M.length ≤ k + 1 := by rw [← HM.out]; have := addE_len m ⟨t, tn, ac, an, ob, r⟩; omega
          have HKB : Hid (∀ w', Below w.heap.size w w' → w'.cell? ⟨b, o + k * 6, none⟩ = some (.int .i64 t) ∧ w'.cell? ⟨b, o + k * 6 + 1, none⟩ = some (.string tn) ∧ w'.cell? ⟨b, o + k * 6 + 2, none⟩ = some (.string ac) ∧ w'.cell? ⟨b, o + k * 6 + 3, none⟩ = some (.string an) ∧ w'.cell? ⟨b, o + k * 6 + 4, none⟩ = some (.string ob) ∧ w'.cell? ⟨b, o + k * 6 + 5, none⟩ = some (.int .i64 r)) := Lib.hid (fun w' hb => by
            obtain ⟨b', o', hbo, e0, e1, e2, e3, e4, e5⟩ := HC0.out
            injection hbo with hbo
            injection hbo with hb1 hb2
            rw [hb1, hb2]
            have hlt' := World.block_lt_of_cell? _ _ e0
            have hc : ∀ j, w'.cell? ⟨b', j, none⟩ = w.cell? ⟨b', j, none⟩ := fun j => hb.cell (p := ⟨b', j, none⟩) hlt'
            exact ⟨(hc _).trans e0, (hc _).trans e1, (hc _).trans e2, (hc _).trans e3, (hc _).trans e4, (hc _).trans e5⟩)
          have T3 := Lib.hid (HT.out.below (Below.refl _ _).drew)
          have een : (E != E) = false := by simp
          have hhn : (H.toList != H.toList) = false := by simp
          have mln : ((M.length : Int) != (M.length : Int)) = false := by simp
          have HK3 := Lib.hid (HKB.out _ T3.out.base)
          go_wp2_with fail
          go_region_held3 (fun w' => w'.cell? ⟨b, o + k * 6, none⟩ = some (.int .i64 t) ∧ w'.cell? ⟨b, o + k * 6 + 1, none⟩ = some (.string tn) ∧ w'.cell? ⟨b, o + k * 6 + 2, none⟩ = some (.string ac) ∧ w'.cell? ⟨b, o + k * 6 + 3, none⟩ = some (.string an) ∧ w'.cell? ⟨b, o + k * 6 + 4, none⟩ = some (.string ob) ∧ w'.cell? ⟨b, o + k * 6 + 5, none⟩ = some (.int .i64 r))
            (first | go_keep | (exact HK3.out) | (exact HKB.out _ T4.out.base) | (exact HKB.out _ T5.out.base) | (exact HKB.out _ T6.out.base) | (exact HKB.out _ T7.out.base))
            (first
              | (go_at_call 29; refine (rllen_any _ w.heap.size g' v5 M ?_ ?_).mono ?_; exact T6.out.b; omega; rintro e w7 ⟨rfl, hb7⟩; have T7 := Lib.hid (T6.out.below hb7))
              | (go_at_call 28; refine (llen_any _ w.heap.size g vL4 vS4 M ?_).mono ?_; exact T6.out.a; rintro e wsame ⟨rfl, rfl⟩)
              | (go_at_call 27; refine (rlhead_any _ w.heap.size g' v5 M ?_ ?_).mono ?_; exact T5.out.b; omega; rintro e w6 ⟨rfl, hb6⟩; rw [HH.out]; have T6 := Lib.hid (T5.out.below hb6))
              | (go_at_call 26; refine (lhead_any _ w.heap.size g vL4 vS4 M ?_).mono ?_; exact T5.out.a; rintro e wsame ⟨rfl, rfl⟩; rw [HH.out])
              | (go_at_call 25; refine (rladd_any ⟨t, tn, ac, an, ob, r⟩ _ HX.out w.heap.size g' v m ?_ ?_ ?_).mono ?_; exact T4.out.b; exact T4.out.base.size; omega; rintro e w5 ⟨rfl, ha5⟩; rw [HEE.out]; rw [HM.out] at ha5; obtain ⟨v5, ht5⟩ := T4.out.addR ha5; have T5 := Lib.hid ht5)
              | (go_at_call 24; refine (ladd_any ⟨t, tn, ac, an, ob, r⟩ w _ HX.out hd hp ?_ g vL vS m ?_ ?_).mono ?_; exact T3.out.base; exact T3.out.a; omega; rintro e w4 ⟨rfl, ha4⟩; rw [HEE.out]; rw [HM.out] at ha4; obtain ⟨vL4, vS4, ht4⟩ := T3.out.addL ha4; have T4 := Lib.hid ht4)
              | fail)
          all_goals
            clear d0 d1 d2 d3 d4 d5 een hhn mln
            go_wp2_with fail
            go_roundw
            case rel => exact ⟨k + 1, vL4, vS4, v5, M, hlt, by go_num, T7, hML⟩
            case measure => simp [intOf]; omega
        · have hke : k = l.length := by omega
          have hm16 : m.length ≤ 16 := by omega
          clear hm
          obtain ⟨P, HPP⟩ : ∃ P, Hid (pathS (m.map lineS) n = P) := ⟨_, Lib.hid rfl⟩
          obtain ⟨E, HEE⟩ : ∃ E, Hid (pathE (m.map lineS) n = E) := ⟨_, Lib.hid rfl⟩
          have HPL : Hid (P.length ≤ 1000000) := Lib.hid (by rw [← HPP.out]; exact pathS_length _ _ (by simp; omega))
          obtain ⟨O, HO⟩ : ∃ O, Hid (ofT m s = O) := ⟨_, Lib.hid rfl⟩
          have hO : O.length ≤ 16 := by rw [← HO.out]; have := ofT_len m s; omega
          obtain ⟨R, HR⟩ : ∃ R, Hid (rootS (m.map lineS) = R) := ⟨_, Lib.hid rfl⟩
          go_wp2_with fail
          refine (lprove_any n _ (hd.below HT.out.base) _ g vL vS m HT.out.a (by omega)).mono ?_
          rintro e w3 ⟨hr3, hb3⟩
          rw [HPP.out, HEE.out] at hr3
          obtain ⟨A3, c3, rfl, hs3, _, _⟩ := hr3
          have T_3 := Lib.hid (HT.out.below hb3)
          clear hb3
          have S_3 := Lib.hid (hs3)
          clear hs3
          go_wp2_with fail
          refine (rlprove_any n _ _ g' v m T_3.out.b (by omega)).mono ?_
          rintro e w4 ⟨hr4, hb4⟩
          rw [HPP.out, HEE.out] at hr4
          obtain ⟨A4, c4, rfl, hs4, _, _⟩ := hr4
          have T_4 := Lib.hid (T_3.out.below hb4)
          have S_4 := Lib.hid (S_3.out.below hb4)
          clear hb4
          have R_4 := Lib.hid (hs4)
          clear hs4
          go_wp2_with fail
          refine (lall_any _ _ g vL vS m T_4.out.a (by omega)).mono ?_
          rintro e w5 ⟨⟨A5, c5, rfl, he5, _, _⟩, hb5⟩
          have T_5 := Lib.hid (T_4.out.below hb5)
          have S_5 := Lib.hid (S_4.out.below hb5)
          have R_5 := Lib.hid (R_4.out.below hb5)
          clear hb5
          have E_5 := Lib.hid (he5)
          clear he5
          go_wp2_with fail
          refine (rlall_any _ _ g' v m T_5.out.b (by omega)).mono ?_
          rintro e w6 ⟨⟨A6, c6, rfl, he6, _, _⟩, hb6⟩
          have T_6 := Lib.hid (T_5.out.below hb6)
          have S_6 := Lib.hid (S_5.out.below hb6)
          have R_6 := Lib.hid (R_5.out.below hb6)
          have E_6 := Lib.hid (E_5.out.below hb6)
          clear hb6
          have F_6 := Lib.hid (he6)
          clear he6
          go_wp2_with fail
          refine (evsame_any m m A5 A6 c5 c6 _ E_6.out F_6.out (by omega) (by omega)).mono ?_
          rintro e w7 ⟨rfl, hb7⟩
          rw [decide_eq_true rfl]
          have T_7 := Lib.hid (T_6.out.below hb7)
          have S_7 := Lib.hid (S_6.out.below hb7)
          have R_7 := Lib.hid (R_6.out.below hb7)
          clear hb7
          go_wp2_with fail
          refine (levents_any s _ _ g vL vS m T_7.out.a (by omega)).mono ?_
          rintro e w8 ⟨hr8, hb8⟩
          rw [HO.out] at hr8
          obtain ⟨A8, c8, rfl, he8, _, _⟩ := hr8
          have T_8 := Lib.hid (T_7.out.below hb8)
          have S_8 := Lib.hid (S_7.out.below hb8)
          have R_8 := Lib.hid (R_7.out.below hb8)
          clear hb8
          have E_8 := Lib.hid (he8)
          clear he8
          go_wp2_with fail
          refine (rlevents_any s _ _ g' v m T_8.out.b (by omega)).mono ?_
          rintro e w9 ⟨hr9, hb9⟩
          rw [HO.out] at hr9
          obtain ⟨A9, c9, rfl, he9, _, _⟩ := hr9
          have T_9 := Lib.hid (T_8.out.below hb9)
          have S_9 := Lib.hid (S_8.out.below hb9)
          have R_9 := Lib.hid (R_8.out.below hb9)
          have E_9 := Lib.hid (E_8.out.below hb9)
          clear hb9
          have F_9 := Lib.hid (he9)
          clear he9
          go_wp2_with fail
          refine (evsame_any O O A8 A9 c8 c9 _ E_9.out F_9.out (by omega) (by omega)).mono ?_
          rintro e w10 ⟨rfl, hb10⟩
          rw [decide_eq_true rfl]
          have T_10 := Lib.hid (T_9.out.below hb10)
          have S_10 := Lib.hid (S_9.out.below hb10)
          have R_10 := Lib.hid (R_9.out.below hb10)
          clear hb10
          go_wp2_with fail
          refine (lroot_any _ (hd.below T_10.out.base) _ g vL vS m T_10.out.a (by omega)).mono ?_
          rintro e w11 ⟨rfl, hb11⟩
          rw [HR.out]
          have T_11 := Lib.hid (T_10.out.below hb11)
          have S_11 := Lib.hid (S_10.out.below hb11)
          have R_11 := Lib.hid (R_10.out.below hb11)
          clear hb11
          go_wp2_with fail
          refine (rlroot_any _ _ g' v m T_11.out.b (by omega)).mono ?_
          rintro e w12 ⟨rfl, hb12⟩
          rw [HR.out]
          have T_12 := Lib.hid (T_11.out.below hb12)
          have S_12 := Lib.hid (S_11.out.below hb12)
          have R_12 := Lib.hid (R_11.out.below hb12)
          clear hb12
          go_wp2_with fail
          refine (same_any P P A3 A4 c3 c4 _ S_12.out R_12.out HPL.out HPL.out).mono ?_
          rintro e w13 ⟨rfl, hb13⟩
          rw [decide_eq_true rfl]
          have T_13 := Lib.hid (T_12.out.below hb13)
          clear hb13
          go_wp2_with fail
          refine (awake_any _ (hd.below T_13.out.base) (hp.below T_13.out.base) (hE.below T_13.out.base)).mono ?_
          rintro e w14 ⟨rfl, hb14⟩
          have T_14 := Lib.hid (T_13.out.below hb14)
          clear hb14
          go_wp2_with fail
          go_ret
          exact ⟨rfl, T_14.out.base⟩
  · have HL : Hid (lightB l = false) := Lib.hid (by simpa using hli)
    clear hli
    go_enter Tryz.func5, Tryz.ntmps5
    go_wp2_with fail
    refine (Calls.mono HLI.out ?_)
    rintro e wsame ⟨rfl, rfl⟩
    rw [HL.out]
    go_wp2_with fail
    refine (awake_any _ (hd.below B0.out) (hp.below B0.out) (hE.below B0.out)).mono ?_
    rintro e w1 ⟨rfl, hb1⟩
    have B1 := Lib.hid (bthen B0.out hb1)
    have G1 := Lib.hid hb1
    clear hb1
    go_wp2_with fail
    go_ret
    exact ⟨rfl, B1.out⟩

set_option maxRecDepth 100000 in
/-- What the walk gives, for every argument and every world that holds the listed variables. -/
theorem contract (H : Type) (enc : TypeId × Value → H) (W : World) (base : Nat) (args : Array Value) (ds gs : List (DataW H)) (before : List MemPlace)
    (hval : ∀ (j : Nat) t v, Tryz.f5.params[j]? = some t → args[j]? = some v → Value.okWide Tryz.prog W .any base t v)
    (hW : DataW.Whole enc Tryz.prog Tryz.f5.params.toList Rows.auditLogsSpec.vars false W args.toList ds gs before) (hL : laidMetH Tryz.prog Rows.auditLogsRow.laid W) :
    Calls Tryz.prog 5 args W fun e W' => ∃ v, e = .returned v ∧ Rows.auditLogsSpec.post enc Tryz.prog Tryz.f5 false true false false W args v W' := by
  have hW' := hW
  obtain ⟨p, q, hA0, hV, rfl, hfz, hnd⟩ := hW
  obtain ⟨rfl, rfl⟩ := trodVars_none hV
  have hA1 : DataW.TrodAll enc Tryz.prog W 0 (fun _ => true) true Tryz.f5.params.toList args.toList ds (p ++ []) := by rw [List.append_nil]; exact hA0
  have hA : DataW.TrodAll enc Tryz.prog W 0 (fun _ => true) true Tryz.f5.params.toList args.toList ds p := hA0
  rw [Tryz.params5] at hA hval
  obtain ⟨v0, vs0, d0, ds0, p0, q0, hargs, rfl, rfl, h0, r0⟩ := trodAll_cons hA
  obtain ⟨v1, vs1, d1, ds1, p1, q1, rfl, rfl, rfl, h1, r1⟩ := trodAll_cons r0
  obtain ⟨v2, vs2, d2, ds2, p2, q2, rfl, rfl, rfl, h2, r2⟩ := trodAll_cons r1
  obtain ⟨rfl, rfl, rfl⟩ := trodAll_nil r2
  obtain rfl : args = #[v0, v1, v2] := by cases args; simp_all
  obtain ⟨A0, l0, c0, rfl, hS0, _, hl0, hin0⟩ := open_evs Tryz.underlying26 Tryz.underlying24 (by kernel_rfl) ⟨rfl, rfl, rfl, rfl, rfl, rfl⟩ Tryz.underlying3 Tryz.underlying9 Tryz.underlying9 Tryz.underlying9 Tryz.underlying9 Tryz.underlying22 ⟨by kernel_rfl, by kernel_rfl, by kernel_rfl, by kernel_rfl, by kernel_rfl, by kernel_rfl⟩ (hval 0 26 v0 rfl rfl) h0
  obtain ⟨s1, rfl, rfl, rfl, hs1⟩ := open_string Tryz.underlying9 (hval 1 9 v1 rfl rfl) h1
  have hs1 : s1.size ≤ 9223372036854775807 := by unfold maxLen at hs1; exact hs1
  obtain ⟨n2, rfl, rfl, rfl, wn2⟩ := open_int Tryz.underlying3 (hval 2 3 v2 rfl rfl) h2
  obtain ⟨_, _⟩ := bounds_i64 wn2
  obtain ⟨hd, hp, hE⟩ := laid_tabs hL
  refine (walk l0 A0 c0 s1 n2 W hd hp hE hS0 hin0 hl0).mono fun e W' ⟨he, hb⟩ => ?_
  subst he
  exact ⟨_, rfl, law_post laidOut (by kernel_rfl) (by kernel_rfl) Tryz.underlying4 hW' rfl rfl hA1 hb⟩

set_option maxRecDepth 100000 in
theorem reads (w : World) {H : Type} (enc : TypeId × Value → H) : ∃ places, DataW.whole enc Tryz.prog w Tryz.f5.params.toList Rows.auditLogsSpec.vars false #[Value.slice none 0 0, .string ByteArray.empty, .int .i64 0].toList 8 = some ([.nil, .lit (.string []), .lit (.int .i64 0)], [], places) :=
  ⟨[], by kernel_rfl⟩
theorem args_ok (w : World) : Input.okWideB Tryz.prog w 5 ⟨#[], #[.slice none 0 0, .string ByteArray.empty, .int .i64 0], []⟩ = true := by kernel_rfl
set_option maxRecDepth 100000 in
theorem lifted (os : Os) (started : os.Started) (H : Type) (enc : TypeId × Value → H) (F : Stop.Interp) :
    ReturnsInHanded {} Tryz.checked os 5 .any ((OpenSpec.ofChange Rows.auditLogsSpec).preRow enc Tryz.prog Tryz.f5 Rows.auditLogsRow.domain false Rows.auditLogsRow.laid) (((OpenSpec.ofChange Rows.auditLogsSpec).at F).post enc Tryz.prog Tryz.f5 false true false false) := by
  obtain ⟨places, hx⟩ := reads _ enc
  refine returnsInHanded_of_row (C := Tryz.checked) (s := OpenSpec.ofChange Rows.auditLogsSpec) own started (by kernel_rfl) Tryz.func5
    (witness_row_at (enc := enc) (C := Tryz.checked) false (World.laidAll Tryz.prog os laidList) #[.slice none 0 0, .string ByteArray.empty, .int .i64 0] (World.laidAll_os _ _ _) (w_hv os _) (w_hr os _) (args_ok _)
      (OpenSpec.preRow_of_cond 8 hx (by kernel_rfl) (fun k hk => by cases hk) (by kernel_rfl) (w_laid os _))) ?_
  intro W base args ds gs before hval hW _ _ _ hL _ _
  exact contract H enc W base args ds gs before hval hW hL

theorem said : Rows.AuditLogsSaid :=
  OpenClaim.holds_of_cond 5 Tryz.f5 rfl rfl rfl rfl rfl rfl rfl ⟨rfl, rfl, rfl, rfl, rfl⟩ rfl rfl rfl rfl rfl (by kernel_rfl) Tryz.func5 (by kernel_rfl)
    (of_decide_eq_true (by kernel_rfl)) (by unfold Func.isWrapper; first | (rw [if_pos (by decide +kernel)]; kernel_rfl) | (rw [if_neg (by decide +kernel)]; exact ⟨rfl, rfl⟩))
    (fun os started H enc _ F => by rw [OpenClaim.pre_eq_preRow]; exact lifted os started H enc F)

theorem plain (f : FuncId) (fn : Func) (hf : Tryz.pinned.checked.prog.funcNamed Rows.auditLogsRow.func = some f) (hfn : Tryz.pinned.checked.prog.funcs[f]? = some fn) :
    true = Tryz.pinned.checked.prog.looks [] ∧ ∀ (j : Nat) t, fn.params[j]? = some t → Tryz.pinned.checked.prog.wantsStandIn t = false := by
  obtain rfl : f = 5 := Option.some.inj ((show Tryz.prog.funcNamed Rows.auditLogsRow.func = some 5 by kernel_rfl).symm.trans hf) |>.symm
  obtain rfl : fn = Tryz.f5 := (Option.some.inj (Tryz.func5.symm.trans hfn)).symm
  refine ⟨by kernel_rfl, fun j t ht => ?_⟩
  rw [Tryz.params5] at ht
  have hm : t ∈ [26, 9, 3] := by simpa using Array.mem_of_getElem? ht
  have hall : ([26, 9, 3].all fun u => !Tryz.prog.wantsStandIn u) = true := by kernel_rfl
  exact (show Tryz.prog.wantsStandIn t = false by simpa using List.all_eq_true.1 hall t hm)

theorem card : Rows.AuditLogsCardSaid :=
  Claim7.holds_tied_plain_at .later [] _ _ _ _ said (fun _ h => by cases h) (by kernel_rfl) (fun _ h => by cases h) auditLogs_row_tie rfl ⟨rfl, rfl⟩ (by kernel_rfl) rfl plain (by kernel_rfl)
end Go.Proofs.YthdpkfddmkijlaaGreatDoor.auditLogs
