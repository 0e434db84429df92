/- AuditBack: for every event and every string the law answers true and leaves its arguments alone; no condition. -/
import Derived.Lay
import Derived.Test.YthdpkfddmkijlaaGreatDoorCards
import Derived.Test.YthdpkfddmkijlaaGreatDoorTie
import Derived.Test.YthdpkfddmkijlaaGreatDoorSeg10
import Derived.Test.YthdpkfddmkijlaaGreatDoorSeg9
import Derived.Test.YthdpkfddmkijlaaGreatDoorSeg7
import Derived.Test.YthdpkfddmkijlaaGreatDoorSeg8
import Derived.Test.YthdpkfddmkijlaaGreatDoorSeg4
namespace Go.Proofs.YthdpkfddmkijlaaGreatDoor.auditBack
open Go.ChangeShapes Go.WideShapes Go.ChangeAt Go.RowKit
open Go.ChangeMaps (open_string)


theorem cells6 {w : World} {b : Nat} {t r : Int} {tn ac an ob : ByteArray} (h : EvBox w b ⟨t, tn, ac, an, ob, r⟩) : w.cell? ⟨b, 0, none⟩ = some (.int .i64 t) ∧ w.cell? ⟨b, 1, none⟩ = some (.string tn) ∧ w.cell? ⟨b, 2, none⟩ = some (.string ac) ∧ w.cell? ⟨b, 3, none⟩ = some (.string an) ∧ w.cell? ⟨b, 4, none⟩ = some (.string ob) ∧ w.cell? ⟨b, 5, none⟩ = some (.int .i64 r) := h.cells
theorem light_box (t r : Int) (tn ac an ob : ByteArray) (w : World) : Calls Tryz.prog 10 #[.slice (some ⟨w.heap.size + 1, 0, none⟩) 1 1] ((w.alloc (.cells #[.int .i64 t, .string tn, .string ac, .string an, .string ob, .int .i64 r] 24)).alloc (.cells #[.int .i64 t, .string tn, .string ac, .string an, .string ob, .int .i64 r] 24)) fun e w' => e = .returned (.bool (lightB [⟨t, tn, ac, an, ob, r⟩])) ∧ (w.alloc (.cells #[.int .i64 t, .string tn, .string ac, .string an, .string ob, .int .i64 r] 24)).alloc (.cells #[.int .i64 t, .string tn, .string ac, .string an, .string ob, .int .i64 r] 24) = w' := by
  have h := light_any [⟨t, tn, ac, an, ob, r⟩] _ 1 _ (one_new (w.alloc (.cells #[.int .i64 t, .string tn, .string ac, .string an, .string ob, .int .i64 r] 24)) ⟨t, tn, ac, an, ob, r⟩) (Nat.le_of_ble_eq_true rfl)
  rw [World.size_alloc] at h
  exact h

theorem line_in {e : Ev} (h : lineE e = 0) : EvIn e := by
  obtain ⟨h1, h2, h3⟩ := lineE_ok h
  have a := validT_in h1
  have b := resOk_in h3
  have c := evNames_size h2
  unfold EvIn
  omega
set_option maxHeartbeats 4000000 in
set_option maxRecDepth 100000 in
theorem walk (x : Ev) (s : ByteArray) (w : World) (hd : DigOk w) (hp : PowOk w) (hE : ErrsOk w) (hin : EvIn x) (hs : s.size ≤ 9223372036854775807) :
    Calls Tryz.prog 6 #[evV x, .string s] w fun e w' => e = .returned (.bool true) ∧ Below w.heap.size w w' := by
  obtain ⟨t, tn, ac, an, ob, r⟩ := x
  have HIN := Lib.hid hin
  clear hin
  have X1 : Hid (EvBox (w.alloc (.cells #[.int .i64 t, .string tn, .string ac, .string an, .string ob, .int .i64 r] 24)) w.heap.size ⟨t, tn, ac, an, ob, r⟩) := Lib.hid (EvBox.new w ⟨t, tn, ac, an, ob, r⟩)
  have B1 : Hid (Below w.heap.size w (w.alloc (.cells #[.int .i64 t, .string tn, .string ac, .string an, .string ob, .int .i64 r] 24))) := Lib.hid ((Below.refl _ _).alloc (Nat.le_refl _) _)
  have B2 : Hid (Below w.heap.size w ((w.alloc (.cells #[.int .i64 t, .string tn, .string ac, .string an, .string ob, .int .i64 r] 24)).alloc (.cells #[.int .i64 t, .string tn, .string ac, .string an, .string ob, .int .i64 r] 24))) := Lib.hid (B1.out.alloc B1.out.size _)
  have X2 : Hid (EvBox ((w.alloc (.cells #[.int .i64 t, .string tn, .string ac, .string an, .string ob, .int .i64 r] 24)).alloc (.cells #[.int .i64 t, .string tn, .string ac, .string an, .string ob, .int .i64 r] 24)) w.heap.size ⟨t, tn, ac, an, ob, r⟩) := Lib.hid (X1.out.below ((Below.refl _ _).alloc (Nat.le_refl _) _))
  have HLI := Lib.hid (light_box t r tn ac an ob w)
  obtain ⟨w2, HW2⟩ : ∃ w2, Hid ((w.alloc (.cells #[.int .i64 t, .string tn, .string ac, .string an, .string ob, .int .i64 r] 24)).alloc (.cells #[.int .i64 t, .string tn, .string ac, .string an, .string ob, .int .i64 r] 24) = w2) := ⟨_, Lib.hid rfl⟩
  show Calls Tryz.prog 6 #[.agg #[.int .i64 t, .string tn, .string ac, .string an, .string ob, .int .i64 r], .string s] w _
  by_cases hli : lightB [⟨t, tn, ac, an, ob, r⟩] = true ∧ s.size ≤ 1000
  · have HL := Lib.hid hli.1
    have hsz := hli.2
    have t1 : decide ((1000 : Int) < (s.size : Int)) = false := decide_eq_false (by omega)
    clear hli
    go_enter Tryz.func6, Tryz.ntmps6
    go_wp2_with fail
    refine (Calls.mono HLI.out ?_)
    rintro e wsame ⟨rfl, rfl⟩
    rw [HL.out]
    clear HLI
    obtain ⟨x0, x1, x2, x3, x4, x5⟩ := cells6 X2.out
    rw [HW2.out] at x0 x1 x2 x3 x4 x5
    rw [HW2.out]
    have B3 : Hid (Below w.heap.size w w2) := Lib.hid (by rw [← HW2.out]; exact B2.out)
    have X3 : Hid (EvBox w2 w.heap.size ⟨t, tn, ac, an, ob, r⟩) := Lib.hid (by rw [← HW2.out]; exact X2.out)
    clear HW2 X1 X2 B1 B2
    obtain ⟨S, HS⟩ : ∃ S, Hid (lineS ⟨t, tn, ac, an, ob, r⟩ = S) := ⟨_, Lib.hid rfl⟩
    by_cases h0 : lineE ⟨t, tn, ac, an, ob, r⟩ = 0
    · have HE0 := Lib.hid h0
      have HPS : Hid (parseS S = ⟨t, tn, ac, an, ob, r⟩ ∧ parseE S = 0) := Lib.hid (by have h := line_back h0; rw [HS.out] at h; exact ⟨h.2, (parse_ok h.1).2⟩)
      have HSZ : Hid (S.size ≤ 2000) := Lib.hid (by rw [← HS.out]; exact lineS_size _)
      clear h0
      go_wp2_with fail
      refine (line_any ⟨t, tn, ac, an, ob, r⟩ _ HIN.out (hp.below B3.out)).mono ?_
      rintro e w3 ⟨rfl, hb3⟩
      rw [HS.out, HE0.out]
      have B4 := Lib.hid (bthen B3.out hb3)
      have X4 := Lib.hid (X3.out.below hb3)
      clear hb3 x0 x1 x2 x3 x4 x5
      go_wp2_with fail
      refine (parse_any S _ (by have := HSZ.out; omega) (hp.below B4.out) (hE.below B4.out)).mono ?_
      rintro e w4 ⟨rfl, hb4⟩
      rw [HPS.out.1, HPS.out.2]
      have B5 := Lib.hid (bthen B4.out hb4)
      have X5 := Lib.hid (X4.out.below hb4)
      clear hb4
      simp only [evV]
      have B6 : Hid (Below w.heap.size w (w4.alloc (.cells #[.int .i64 t, .string tn, .string ac, .string an, .string ob, .int .i64 r] 24))) := Lib.hid (B5.out.alloc B5.out.size _)
      obtain ⟨x0, x1, x2, x3, x4, x5⟩ := cells6 X5.out
      have hlt := row_lt X5.out
      have kg := ev_guard
      have kq : ∀ w, (Op.equalIn 10000 24 (.agg #[.int .i64 t, .string tn, .string ac, .string an, .string ob, .int .i64 r]) (.agg #[.int .i64 t, .string tn, .string ac, .string an, .string ob, .int .i64 r])).run Tryz.prog w = .ok true w := fun w => (ev_beq ⟨t, tn, ac, an, ob, r⟩ ⟨t, tn, ac, an, ob, r⟩ w).trans (by rw [decide_eq_true rfl])
      go_wp2_with fail
      clear kg kq x0 x1 x2 x3 x4 x5 hlt
      refine (parse_any s _ (by omega) (hp.below B6.out) (hE.below B6.out)).mono ?_
      rintro e v1 ⟨rfl, hbv⟩
      have C1 := Lib.hid (bthen B6.out hbv)
      clear hbv
      by_cases hpk : parseOk s = true
      · have HP0 := Lib.hid (parse_ok hpk).2
        have HLY : Hid (lineE (parseS s) = 0 ∧ lineS (parseS s) = s) := Lib.hid (by rw [(parse_ok hpk).1]; exact (parseOk_parts hpk).2.2)
        rw [HP0.out]
        clear hpk
        obtain ⟨Y, HY⟩ : ∃ Y, Hid (parseS s = Y) := ⟨_, Lib.hid rfl⟩
        rw [HY.out] at HLY
        rw [HY.out]
        have HYI := Lib.hid (line_in HLY.out.1)
        obtain ⟨y0, y1, y2, y3, y4, y5⟩ := Y
        simp only [evV]
        have C2 : Hid (Below w.heap.size w (v1.alloc (.cells #[.int .i64 y0, .string y1, .string y2, .string y3, .string y4, .int .i64 y5] 24))) := Lib.hid (C1.out.alloc C1.out.size _)
        have q1 : v1.heap.size < (v1.alloc (.cells #[.int .i64 y0, .string y1, .string y2, .string y3, .string y4, .int .i64 y5] 24)).heap.size := by simp
        go_wp2_with fail
        refine (line_any ⟨y0, y1, y2, y3, y4, y5⟩ _ HYI.out (hp.below C2.out)).mono ?_
        rintro e v2 ⟨rfl, hbv⟩
        rw [HLY.out.1, HLY.out.2]
        have C3 := Lib.hid (bthen C2.out hbv)
        clear hbv
        have ss : (s.toList != s.toList) = false := by simp
        go_wp2_with fail
        refine (awake_any _ (hd.below C3.out) (hp.below C3.out) (hE.below C3.out)).mono ?_
        rintro e wz ⟨rfl, hbz⟩
        have BZ := Lib.hid (bthen C3.out hbz)
        clear hbz
        go_wp2_with fail
        go_ret
        exact ⟨rfl, BZ.out⟩
      · have HP0 := Lib.hid (parse_bad hpk)
        rw [HP0.out.1, HP0.out.2]
        clear hpk
        simp only [evV, zeroEv]
        have C2 : Hid (Below w.heap.size w (v1.alloc (.cells #[.int .i64 0, .string ⟨#[]⟩, .string ⟨#[]⟩, .string ⟨#[]⟩, .string ⟨#[]⟩, .int .i64 0] 24))) := Lib.hid (C1.out.alloc C1.out.size _)
        go_wp2_with fail
        refine (awake_any _ (hd.below C2.out) (hp.below C2.out) (hE.below C2.out)).mono ?_
        rintro e wz ⟨rfl, hbz⟩
        have BZ := Lib.hid (bthen C2.out hbz)
        clear hbz
        go_wp2_with fail
        go_ret
        exact ⟨rfl, BZ.out⟩
    · have HE0 : (lineE ⟨t, tn, ac, an, ob, r⟩ == 0) = false := by rw [beq_eq_false_iff_ne]; exact h0
      obtain ⟨E, HE⟩ : ∃ E, Hid (lineE ⟨t, tn, ac, an, ob, r⟩ = E) := ⟨_, Lib.hid rfl⟩
      rw [HE.out] at HE0
      clear h0
      go_wp2_with fail
      refine (line_any ⟨t, tn, ac, an, ob, r⟩ _ HIN.out (hp.below B3.out)).mono ?_
      rintro e w3 ⟨rfl, hb3⟩
      rw [HS.out, HE.out]
      have B4 := Lib.hid (bthen B3.out hb3)
      clear hb3 x0 x1 x2 x3 x4 x5
      go_wp2_with fail
      refine (parse_any s _ (by omega) (hp.below B4.out) (hE.below B4.out)).mono ?_
      rintro e v1 ⟨rfl, hbv⟩
      have C1 := Lib.hid (bthen B4.out hbv)
      clear hbv
      by_cases hpk : parseOk s = true
      · have HP0 := Lib.hid (parse_ok hpk).2
        have HLY : Hid (lineE (parseS s) = 0 ∧ lineS (parseS s) = s) := Lib.hid (by rw [(parse_ok hpk).1]; exact (parseOk_parts hpk).2.2)
        rw [HP0.out]
        clear hpk
        obtain ⟨Y, HY⟩ : ∃ Y, Hid (parseS s = Y) := ⟨_, Lib.hid rfl⟩
        rw [HY.out] at HLY
        rw [HY.out]
        have HYI := Lib.hid (line_in HLY.out.1)
        obtain ⟨y0, y1, y2, y3, y4, y5⟩ := Y
        simp only [evV]
        have C2 : Hid (Below w.heap.size w (v1.alloc (.cells #[.int .i64 y0, .string y1, .string y2, .string y3, .string y4, .int .i64 y5] 24))) := Lib.hid (C1.out.alloc C1.out.size _)
        have q1 : v1.heap.size < (v1.alloc (.cells #[.int .i64 y0, .string y1, .string y2, .string y3, .string y4, .int .i64 y5] 24)).heap.size := by simp
        go_wp2_with fail
        refine (line_any ⟨y0, y1, y2, y3, y4, y5⟩ _ HYI.out (hp.below C2.out)).mono ?_
        rintro e v2 ⟨rfl, hbv⟩
        rw [HLY.out.1, HLY.out.2]
        have C3 := Lib.hid (bthen C2.out hbv)
        clear hbv
        have ss : (s.toList != s.toList) = false := by simp
        go_wp2_with fail
        refine (awake_any _ (hd.below C3.out) (hp.below C3.out) (hE.below C3.out)).mono ?_
        rintro e wz ⟨rfl, hbz⟩
        have BZ := Lib.hid (bthen C3.out hbz)
        clear hbz
        go_wp2_with fail
        go_ret
        exact ⟨rfl, BZ.out⟩
      · have HP0 := Lib.hid (parse_bad hpk)
        rw [HP0.out.1, HP0.out.2]
        clear hpk
        simp only [evV, zeroEv]
        have C2 : Hid (Below w.heap.size w (v1.alloc (.cells #[.int .i64 0, .string ⟨#[]⟩, .string ⟨#[]⟩, .string ⟨#[]⟩, .string ⟨#[]⟩, .int .i64 0] 24))) := Lib.hid (C1.out.alloc C1.out.size _)
        go_wp2_with fail
        refine (awake_any _ (hd.below C2.out) (hp.below C2.out) (hE.below C2.out)).mono ?_
        rintro e wz ⟨rfl, hbz⟩
        have BZ := Lib.hid (bthen C2.out hbz)
        clear hbz
        go_wp2_with fail
        go_ret
        exact ⟨rfl, BZ.out⟩
  · by_cases hl2 : lightB [⟨t, tn, ac, an, ob, r⟩] = true
    · have HL := Lib.hid hl2
      have t1 : decide ((1000 : Int) < (s.size : Int)) = true := decide_eq_true (by have : ¬ s.size ≤ 1000 := fun h => hli ⟨hl2, h⟩; omega)
      clear hli hl2
      go_enter Tryz.func6, Tryz.ntmps6
      go_wp2_with fail
      refine (Calls.mono HLI.out ?_)
      rintro e wsame ⟨rfl, rfl⟩
      rw [HL.out]
      go_wp2_with fail
      refine (awake_any _ (hd.below B2.out) (hp.below B2.out) (hE.below B2.out)).mono ?_
      rintro e wz ⟨rfl, hbz⟩
      have BZ := Lib.hid (bthen B2.out hbz)
      clear hbz
      go_wp2_with fail
      go_ret
      exact ⟨rfl, BZ.out⟩
    · have HL : Hid (lightB [⟨t, tn, ac, an, ob, r⟩] = false) := Lib.hid (by simpa using hl2)
      clear hli hl2
      go_enter Tryz.func6, Tryz.ntmps6
      go_wp2_with fail
      refine (Calls.mono HLI.out ?_)
      rintro e wsame ⟨rfl, rfl⟩
      rw [HL.out]
      go_wp2_with fail
      refine (awake_any _ (hd.below B2.out) (hp.below B2.out) (hE.below B2.out)).mono ?_
      rintro e wz ⟨rfl, hbz⟩
      have BZ := Lib.hid (bthen B2.out hbz)
      clear hbz
      go_wp2_with fail
      go_ret
      exact ⟨rfl, BZ.out⟩

set_option maxRecDepth 100000 in
/-- What the walk gives, for every argument and every world that holds the listed variables. -/
theorem contract (H : Type) (enc : TypeId × Value → H) (W : World) (base : Nat) (args : Array Value) (ds gs : List (DataW H)) (before : List MemPlace)
    (hval : ∀ (j : Nat) t v, Tryz.f6.params[j]? = some t → args[j]? = some v → Value.okWide Tryz.prog W .any base t v)
    (hW : DataW.Whole enc Tryz.prog Tryz.f6.params.toList Rows.auditBackSpec.vars false W args.toList ds gs before) (hL : laidMetH Tryz.prog Rows.auditBackRow.laid W) :
    Calls Tryz.prog 6 args W fun e W' => ∃ v, e = .returned v ∧ Rows.auditBackSpec.post enc Tryz.prog Tryz.f6 false true false false W args v W' := by
  have hW' := hW
  obtain ⟨p, q, hA0, hV, rfl, hfz, hnd⟩ := hW
  obtain ⟨rfl, rfl⟩ := trodVars_none hV
  have hA1 : DataW.TrodAll enc Tryz.prog W 0 (fun _ => true) true Tryz.f6.params.toList args.toList ds (p ++ []) := by rw [List.append_nil]; exact hA0
  have hA : DataW.TrodAll enc Tryz.prog W 0 (fun _ => true) true Tryz.f6.params.toList args.toList ds p := hA0
  rw [Tryz.params6] at hA hval
  obtain ⟨v0, vs0, d0, ds0, p0, q0, hargs, rfl, rfl, h0, r0⟩ := trodAll_cons hA
  obtain ⟨v1, vs1, d1, ds1, p1, q1, rfl, rfl, rfl, h1, r1⟩ := trodAll_cons r0
  obtain ⟨rfl, rfl, rfl⟩ := trodAll_nil r1
  obtain rfl : args = #[v0, v1] := by cases args; simp_all
  obtain ⟨x0, rfl, hin0⟩ := open_ev Tryz.underlying24 (by kernel_rfl) ⟨rfl, rfl, rfl, rfl, rfl, rfl⟩ Tryz.underlying3 Tryz.underlying9 Tryz.underlying9 Tryz.underlying9 Tryz.underlying9 Tryz.underlying22 ⟨by kernel_rfl, by kernel_rfl, by kernel_rfl, by kernel_rfl, by kernel_rfl, by kernel_rfl⟩ (hval 0 24 v0 rfl rfl) h0
  obtain ⟨s1, rfl, rfl, rfl, hs1⟩ := open_string Tryz.underlying9 (hval 1 9 v1 rfl rfl) h1
  have hs1 : s1.size ≤ 9223372036854775807 := by unfold maxLen at hs1; exact hs1
  obtain ⟨hd, hp, hE⟩ := laid_tabs hL
  refine (walk x0 s1 W hd hp hE hin0 hs1).mono fun e W' ⟨he, hb⟩ => ?_
  subst he
  exact ⟨_, rfl, law_post laidOut (by kernel_rfl) (by kernel_rfl) Tryz.underlying4 hW' rfl rfl hA1 hb⟩

set_option maxRecDepth 100000 in
theorem reads (w : World) {H : Type} (enc : TypeId × Value → H) : ∃ places, DataW.whole enc Tryz.prog w Tryz.f6.params.toList Rows.auditBackSpec.vars false #[Value.agg #[.int .i64 0, .string ByteArray.empty, .string ByteArray.empty, .string ByteArray.empty, .string ByteArray.empty, .int .i64 0], .string ByteArray.empty].toList 8 = some ([.agg [.lit (.int .i64 0), .lit (.string []), .lit (.string []), .lit (.string []), .lit (.string []), .lit (.int .i64 0)], .lit (.string [])], [], places) :=
  ⟨[], by kernel_rfl⟩
theorem args_ok (w : World) : Input.okWideB Tryz.prog w 6 ⟨#[], #[.agg #[.int .i64 0, .string ByteArray.empty, .string ByteArray.empty, .string ByteArray.empty, .string ByteArray.empty, .int .i64 0], .string ByteArray.empty], []⟩ = true := by kernel_rfl
set_option maxRecDepth 100000 in
theorem lifted (os : Os) (started : os.Started) (H : Type) (enc : TypeId × Value → H) (F : Stop.Interp) :
    ReturnsInHanded {} Tryz.checked os 6 .any ((OpenSpec.ofChange Rows.auditBackSpec).preRow enc Tryz.prog Tryz.f6 Rows.auditBackRow.domain false Rows.auditBackRow.laid) (((OpenSpec.ofChange Rows.auditBackSpec).at F).post enc Tryz.prog Tryz.f6 false true false false) := by
  obtain ⟨places, hx⟩ := reads _ enc
  refine returnsInHanded_of_row (C := Tryz.checked) (s := OpenSpec.ofChange Rows.auditBackSpec) own started (by kernel_rfl) Tryz.func6
    (witness_row_at (enc := enc) (C := Tryz.checked) false (World.laidAll Tryz.prog os laidList) #[.agg #[.int .i64 0, .string ByteArray.empty, .string ByteArray.empty, .string ByteArray.empty, .string ByteArray.empty, .int .i64 0], .string ByteArray.empty] (World.laidAll_os _ _ _) (w_hv os _) (w_hr os _) (args_ok _)
      (OpenSpec.preRow_of_cond 8 hx (by kernel_rfl) (fun k hk => by cases hk) (by kernel_rfl) (w_laid os _))) ?_
  intro W base args ds gs before hval hW _ _ _ hL _ _
  exact contract H enc W base args ds gs before hval hW hL

theorem said : Rows.AuditBackSaid :=
  OpenClaim.holds_of_cond 6 Tryz.f6 rfl rfl rfl rfl rfl rfl rfl ⟨rfl, rfl, rfl, rfl, rfl⟩ rfl rfl rfl rfl rfl (by kernel_rfl) Tryz.func6 (by kernel_rfl)
    (of_decide_eq_true (by kernel_rfl)) (by unfold Func.isWrapper; first | (rw [if_pos (by decide +kernel)]; kernel_rfl) | (rw [if_neg (by decide +kernel)]; exact ⟨rfl, rfl⟩))
    (fun os started H enc _ F => by rw [OpenClaim.pre_eq_preRow]; exact lifted os started H enc F)

theorem plain (f : FuncId) (fn : Func) (hf : Tryz.pinned.checked.prog.funcNamed Rows.auditBackRow.func = some f) (hfn : Tryz.pinned.checked.prog.funcs[f]? = some fn) :
    true = Tryz.pinned.checked.prog.looks [] ∧ ∀ (j : Nat) t, fn.params[j]? = some t → Tryz.pinned.checked.prog.wantsStandIn t = false := by
  obtain rfl : f = 6 := Option.some.inj ((show Tryz.prog.funcNamed Rows.auditBackRow.func = some 6 by kernel_rfl).symm.trans hf) |>.symm
  obtain rfl : fn = Tryz.f6 := (Option.some.inj (Tryz.func6.symm.trans hfn)).symm
  refine ⟨by kernel_rfl, fun j t ht => ?_⟩
  rw [Tryz.params6] at ht
  have hm : t ∈ [24, 9] := by simpa using Array.mem_of_getElem? ht
  have hall : ([24, 9].all fun u => !Tryz.prog.wantsStandIn u) = true := by kernel_rfl
  exact (show Tryz.prog.wantsStandIn t = false by simpa using List.all_eq_true.1 hall t hm)

theorem card : Rows.AuditBackCardSaid :=
  Claim7.holds_tied_plain_at .later [] _ _ _ _ said (fun _ h => by cases h) (by kernel_rfl) (fun _ h => by cases h) auditBack_row_tie rfl ⟨rfl, rfl⟩ (by kernel_rfl) rfl plain (by kernel_rfl)
end Go.Proofs.YthdpkfddmkijlaaGreatDoor.auditBack
