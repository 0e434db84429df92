/- AuditDetects: for every two lists of events the law answers true and leaves its arguments alone; no condition. -/
import Derived.Lay
import Derived.Test.YthdpkfddmkijlaaGreatDoorCards
import Derived.Test.YthdpkfddmkijlaaGreatDoorTie
import Derived.Test.YthdpkfddmkijlaaGreatDoorSeg11
import Derived.Test.YthdpkfddmkijlaaGreatDoorSeg10
import Derived.Test.YthdpkfddmkijlaaGreatDoorSeg6
import Derived.Test.YthdpkfddmkijlaaGreatDoorSeg9
namespace Go.Proofs.YthdpkfddmkijlaaGreatDoor.auditDetects
open Go.ChangeShapes Go.WideShapes Go.ChangeAt Go.RowKit
open Go.ChangeMaps (open_string)


theorem dgdL_few (l : List Ev) (h : l.length ≤ 16) : (dgdL (l.map lineS)).length ≤ 1000000 := by rw [dgdL_len, List.length_map]; omega
theorem digR_small (L : List ByteArray) (h : ∀ s ∈ L, s.size ≤ 2000) : ∀ s ∈ digR L, s.size ≤ 1000000 := by
  induction L with
  | nil => intro s hs; simp [digR] at hs; subst hs; exact Nat.zero_le _
  | cons x L ih =>
    intro s hs
    rw [digR, List.mem_cons] at hs
    rcases hs with rfl | hs
    · have := topR_size (x :: L) h; omega
    · exact ih (fun s hs => h s (by simp [hs])) s hs
theorem dgdL_small (l : List Ev) : ∀ s ∈ dgdL (l.map lineS), s.size ≤ 1000000 := by
  intro s hs
  rw [dgdL, List.mem_reverse] at hs
  refine digR_small _ (fun s hs => ?_) s hs
  rw [List.mem_reverse, List.mem_map] at hs
  obtain ⟨x, _, rfl⟩ := hs
  exact lineS_size x
theorem lines_inj {l m : List Ev} (hl : firstE l = 0) (hm : firstE m = 0) (h : l.map lineS = m.map lineS) : l = m := by
  rw [firstE_all] at hl hm
  induction l generalizing m with
  | nil => cases m with
    | nil => rfl
    | cons y m => simp at h
  | cons x l ih =>
    cases m with
    | nil => simp at h
    | cons y m =>
      simp only [List.map_cons, List.cons.injEq] at h
      have h1 := (line_back (hl x (by simp))).2
      have h2 := (line_back (hm y (by simp))).2
      rw [h.1, h2] at h1
      rw [← h1, ih (fun e he => hl e (by simp [he])) (fun e he => hm e (by simp [he])) h.2]
/-- What the last heads say. -/
theorem detect_law {l m : List Ev} (hl : firstE l = 0) (hm : firstE m = 0) : (headF startS l = headF startS m → l = m ∨ collR (dgdL (l.map lineS)).reverse (dgdL (m.map lineS)).reverse = true) ∧ (headF startS l ≠ headF startS m → l ≠ m) := by
  refine ⟨fun h => ?_, fun h e => h (by rw [e])⟩
  rw [head_start, head_start] at h
  rw [dgdL, dgdL, List.reverse_reverse, List.reverse_reverse]
  rcases detect _ _ h with h2 | h2
  · exact .inl (lines_inj hl hm (List.reverse_inj.1 h2))
  · exact .inr h2
theorem last_head {l : List Ev} (hl : firstE l = 0) (h : 0 < l.length) : (headsS l).length = l.length ∧ ∀ (hn : (headsS l).length - 1 < (headsS l).length), (headsS l)[(headsS l).length - 1] = headF startS l := by
  have e : headsS l = headsF startS l := by rw [headsS, if_pos hl]
  have e2 := heads_len startS l
  refine ⟨by rw [e, e2], fun hn => ?_⟩
  have h3 := heads_at startS l (l.length - 1) (by omega)
  rw [show l.length - 1 + 1 = l.length by omega, List.take_length] at h3
  rw [← h3]
  congr 1
  rw [e, e2]
set_option maxHeartbeats 8000000 in
set_option maxRecDepth 100000 in
theorem walk (l : List Ev) (A : Option Addr) (c : Nat) (m : List Ev) (B : Option Addr) (c9 : Nat) (w : World) (hd : DigOk w) (hp : PowOk w) (hE : ErrsOk w) (hS : EvsAt w A l) (hin : ∀ x ∈ l, EvIn x) (hl : l.length ≤ 9223372036854775807) (hT : EvsAt w B m) (hjn : ∀ x ∈ m, EvIn x) (hl2 : m.length ≤ 9223372036854775807) :
    Calls Tryz.prog 7 #[.slice A l.length c, .slice B m.length c9] w fun e w' => e = .returned (.bool true) ∧ Below w.heap.size w w' := by
  have HS := Lib.hid hS
  have HT := Lib.hid hT
  have HIN := Lib.hid hin
  have HJN := Lib.hid hjn
  have B0 := Lib.hid (Below.refl w.heap.size w)
  clear hS hT hin hjn
  have HLI := Lib.hid (light_any l A c w HS.out hl)
  have HMI := Lib.hid (light_any m B c9 w HT.out hl2)
  by_cases hli : lightB l = true
  · have HL := Lib.hid hli
    have hl16 := (lightB_facts hli).1
    clear hli
    by_cases hmi : lightB m = true
    · have HM := Lib.hid hmi
      have hm16 := (lightB_facts hmi).1
      clear hmi
      obtain ⟨E1, HE1⟩ : ∃ E, Hid (firstE l = E) := ⟨_, Lib.hid rfl⟩
      obtain ⟨E2, HE2⟩ : ∃ E, Hid (firstE m = E) := ⟨_, Lib.hid rfl⟩
      obtain ⟨HA, HHA⟩ : ∃ H, Hid (headsS l = H) := ⟨_, Lib.hid rfl⟩
      obtain ⟨HB, HHB⟩ : ∃ H, Hid (headsS m = H) := ⟨_, Lib.hid rfl⟩
      by_cases h0 : E1 = 0 ∧ E2 = 0
      · obtain ⟨rfl, rfl⟩ := h0
        go_enter Tryz.func7, Tryz.ntmps7
        go_wp2_with fail
        refine (Calls.mono HLI.out ?_)
        rintro e wsame ⟨rfl, rfl⟩
        rw [HL.out]
        go_wp2_with fail
        refine (Calls.mono HMI.out ?_)
        rintro e wsame ⟨rfl, rfl⟩
        rw [HM.out]
        clear HLI HMI
        go_wp2_with fail
        refine (heads_any l A c _ (hd.below B0.out) (hp.below B0.out) HS.out HIN.out (by omega)).mono ?_
        rintro e w1 ⟨hr1, hb1⟩
        rw [HHA.out, HE1.out] at hr1
        obtain ⟨A1, c1, rfl, hs1, _, _⟩ := hr1
        have B_1 := Lib.hid (bthen B0.out hb1)
        have S_1 := Lib.hid (HS.out.below hb1)
        have T_1 := Lib.hid (HT.out.below hb1)
        clear hb1
        have U_1 := Lib.hid (hs1)
        clear hs1
        go_wp2_with fail
        refine (heads_any m B c9 _ (hd.below B_1.out) (hp.below B_1.out) T_1.out HJN.out (by omega)).mono ?_
        rintro e w2 ⟨hr2, hb2⟩
        rw [HHB.out, HE2.out] at hr2
        obtain ⟨A2, c2, rfl, hs2, _, _⟩ := hr2
        have B_2 := Lib.hid (bthen B_1.out hb2)
        have S_2 := Lib.hid (S_1.out.below hb2)
        have T_2 := Lib.hid (T_1.out.below hb2)
        have U_2 := Lib.hid (U_1.out.below hb2)
        clear hb2
        have V_2 := Lib.hid (hs2)
        clear hs2
        go_wp2_with fail
        refine (text_any ⟨#[]⟩ _ (hd.below B_2.out) (by decide)).mono ?_
        rintro e w3 ⟨rfl, hb3⟩
        rw [show textS ⟨#[]⟩ = startS from rfl]
        have B_3 := Lib.hid (bthen B_2.out hb3)
        have S_3 := Lib.hid (S_2.out.below hb3)
        have T_3 := Lib.hid (T_2.out.below hb3)
        have U_3 := Lib.hid (U_2.out.below hb3)
        have V_3 := Lib.hid (V_2.out.below hb3)
        clear hb3
        go_wp2_with fail
        refine (text_any ⟨#[]⟩ _ (hd.below B_3.out) (by decide)).mono ?_
        rintro e w4 ⟨rfl, hb4⟩
        rw [show textS ⟨#[]⟩ = startS from rfl]
        have B_4 := Lib.hid (bthen B_3.out hb4)
        have S_4 := Lib.hid (S_3.out.below hb4)
        have T_4 := Lib.hid (T_3.out.below hb4)
        have U_4 := Lib.hid (U_3.out.below hb4)
        have V_4 := Lib.hid (V_3.out.below hb4)
        clear hb4
        obtain ⟨PA, HPA⟩ : ∃ P, Hid (headF startS l = P) := ⟨_, Lib.hid rfl⟩
        obtain ⟨PB, HPB⟩ : ∃ P, Hid (headF startS m = P) := ⟨_, Lib.hid rfl⟩
        have HDT := Lib.hid (detect_law HE1.out HE2.out).1
        have HNE := Lib.hid (detect_law HE1.out HE2.out).2
        rw [HPA.out, HPB.out] at HDT HNE
        have B4 := B_4
        have S_4 := S_4
        have T_4 := T_4
        have U_4 := U_4
        have V_4 := V_4
        obtain ⟨X, HX⟩ : ∃ X, Hid (startS = X) := ⟨_, Lib.hid rfl⟩
        rw [HX.out]
        by_cases ha : 0 < l.length
        · have HHa := Lib.hid (last_head HE1.out (by omega))
          rw [HHA.out, HPA.out] at HHa
          have hna : 0 < HA.length := by rw [HHa.out.1]; omega
          have hma : HA.length ≤ 16 := by rw [HHa.out.1]; omega
          obtain ⟨ba, oa, rfl, ga'⟩ := U_4.out (HA.length - 1) (by omega)
          have ga : _ = some (Value.string PA) := ga'.trans (by rw [HHa.out.2])
          have wa : IntKind.i64.wrap ((HA.length : Int) - 1) = (HA.length : Int) - 1 := IntWalk.i64_in _ (by omega)
          have ta : ((HA.length : Int) - 1).toNat = HA.length - 1 := by omega
          have ia : (0 : Int) ≤ (HA.length : Int) - 1 := by omega
          have ja : (1 : Int) ≤ (HA.length : Int) := by omega
          have ka : (HA.length : Int) - 1 < (HA.length : Int) := by omega
          clear ga'
          by_cases hb : 0 < m.length
          · have HHb := Lib.hid (last_head HE2.out (by omega))
            rw [HHB.out, HPB.out] at HHb
            have hnb : 0 < HB.length := by rw [HHb.out.1]; omega
            have hmb : HB.length ≤ 16 := by rw [HHb.out.1]; omega
            obtain ⟨bb, ob, rfl, gb'⟩ := V_4.out (HB.length - 1) (by omega)
            have gb : _ = some (Value.string PB) := gb'.trans (by rw [HHb.out.2])
            have wb : IntKind.i64.wrap ((HB.length : Int) - 1) = (HB.length : Int) - 1 := IntWalk.i64_in _ (by omega)
            have tb : ((HB.length : Int) - 1).toNat = HB.length - 1 := by omega
            have ib : (0 : Int) ≤ (HB.length : Int) - 1 := by omega
            have jb : (1 : Int) ≤ (HB.length : Int) := by omega
            have kb : (HB.length : Int) - 1 < (HB.length : Int) := by omega
            clear gb'
            by_cases hpq : PA = PB
            · have e1 : (PA.toList != PB.toList) = false := by rw [hpq]; simp
              have e2 : PA.toList = PB.toList := by rw [hpq]
              have HCO := Lib.hid (HDT.out hpq)
              clear hpq
              go_wp2_with fail
              refine (evsame_any l m A B c c9 _ S_4.out T_4.out (by omega) (by omega)).mono ?_
              rintro e w5 ⟨rfl, hb5⟩
              have B_5 := Lib.hid (bthen B4.out hb5)
              have S_5 := Lib.hid (S_4.out.below hb5)
              have T_5 := Lib.hid (T_4.out.below hb5)
              clear hb5
              by_cases hlm : l = m
              · rw [decide_eq_true hlm]
                clear hlm
                go_wp2_with fail
                refine (awake_any _ (hd.below B_5.out) (hp.below B_5.out) (hE.below B_5.out)).mono ?_
                rintro e w6 ⟨rfl, hb6⟩
                have B_6 := Lib.hid (bthen B_5.out hb6)
                have S_6 := Lib.hid (S_5.out.below hb6)
                have T_6 := Lib.hid (T_5.out.below hb6)
                clear hb6
                go_wp2_with fail
                go_ret
                exact ⟨rfl, B_6.out⟩
              · have HCL := Lib.hid (HCO.out.resolve_left hlm)
                rw [decide_eq_false hlm]
                clear hlm
                go_wp2_with fail
                refine (digested_any l A c _ (hd.below B_5.out) S_5.out HIN.out (by omega)).mono ?_
                rintro e w6 ⟨⟨A7, c7, rfl, hs7, _⟩, hb6⟩
                have B_6 := Lib.hid (bthen B_5.out hb6)
                have S_6 := Lib.hid (S_5.out.below hb6)
                have T_6 := Lib.hid (T_5.out.below hb6)
                clear hb6
                have U_6 := Lib.hid (hs7)
                clear hs7
                go_wp2_with fail
                refine (digested_any m B c9 _ (hd.below B_6.out) T_6.out HJN.out (by omega)).mono ?_
                rintro e w7 ⟨⟨A8, c8, rfl, hs8, _⟩, hb7⟩
                have B_7 := Lib.hid (bthen B_6.out hb7)
                have S_7 := Lib.hid (S_6.out.below hb7)
                have T_7 := Lib.hid (T_6.out.below hb7)
                have U_7 := Lib.hid (U_6.out.below hb7)
                clear hb7
                have V_7 := Lib.hid (hs8)
                clear hs8
                go_wp2_with fail
                refine (collision_any _ _ A7 A8 c7 c8 _ (hd.below B_7.out) U_7.out V_7.out (dgdL_few l (by omega)) (dgdL_few m (by omega)) (dgdL_small l) (dgdL_small m)).mono ?_
                rintro e w8 ⟨rfl, hb8⟩
                rw [HCL.out]
                have B_8 := Lib.hid (bthen B_7.out hb8)
                have S_8 := Lib.hid (S_7.out.below hb8)
                have T_8 := Lib.hid (T_7.out.below hb8)
                have U_8 := Lib.hid (U_7.out.below hb8)
                have V_8 := Lib.hid (V_7.out.below hb8)
                clear hb8
                go_wp2_with fail
                refine (awake_any _ (hd.below B_8.out) (hp.below B_8.out) (hE.below B_8.out)).mono ?_
                rintro e w9 ⟨rfl, hb9⟩
                have B_9 := Lib.hid (bthen B_8.out hb9)
                have S_9 := Lib.hid (S_8.out.below hb9)
                have T_9 := Lib.hid (T_8.out.below hb9)
                have U_9 := Lib.hid (U_8.out.below hb9)
                have V_9 := Lib.hid (V_8.out.below hb9)
                clear hb9
                go_wp2_with fail
                go_ret
                exact ⟨rfl, B_9.out⟩
            · have e1 : (PA.toList == PB.toList) = false := str_ne hpq
              have e3 : (PA.toList != PB.toList) = true := by rw [bne, e1]; rfl
              have e2 : ¬ PA.toList = PB.toList := fun h => by rw [h] at e1; simp at e1
              have HLM := Lib.hid (HNE.out hpq)
              clear hpq
              go_wp2_with fail
              refine (evsame_any l m A B c c9 _ S_4.out T_4.out (by omega) (by omega)).mono ?_
              rintro e w5 ⟨rfl, hb5⟩
              rw [decide_eq_false HLM.out]
              have B_5 := Lib.hid (bthen B4.out hb5)
              have S_5 := Lib.hid (S_4.out.below hb5)
              have T_5 := Lib.hid (T_4.out.below hb5)
              clear hb5
              go_wp2_with fail
              refine (awake_any _ (hd.below B_5.out) (hp.below B_5.out) (hE.below B_5.out)).mono ?_
              rintro e w6 ⟨rfl, hb6⟩
              have B_6 := Lib.hid (bthen B_5.out hb6)
              have S_6 := Lib.hid (S_5.out.below hb6)
              have T_6 := Lib.hid (T_5.out.below hb6)
              clear hb6
              go_wp2_with fail
              go_ret
              exact ⟨rfl, B_6.out⟩
          · have HZb : Hid (m = []) := Lib.hid (List.eq_nil_of_length_eq_zero (by omega))
            have HYb : Hid (HB = [] ∧ PB = X) := Lib.hid (by rw [← HHB.out, ← HPB.out, ← HX.out, HZb.out]; exact ⟨rfl, rfl⟩)
            obtain rfl : HB = [] := HYb.out.1
            have hPb : PB = X := HYb.out.2
            clear HPB
            subst PB
            by_cases hpq : PA = X
            · have e1 : (PA.toList != X.toList) = false := by rw [hpq]; simp
              have e2 : PA.toList = X.toList := by rw [hpq]
              have HCO := Lib.hid (HDT.out hpq)
              clear hpq
              go_wp2_with fail
              refine (evsame_any l m A B c c9 _ S_4.out T_4.out (by omega) (by omega)).mono ?_
              rintro e w5 ⟨rfl, hb5⟩
              have B_5 := Lib.hid (bthen B4.out hb5)
              have S_5 := Lib.hid (S_4.out.below hb5)
              have T_5 := Lib.hid (T_4.out.below hb5)
              clear hb5
              by_cases hlm : l = m
              · rw [decide_eq_true hlm]
                clear hlm
                go_wp2_with fail
                refine (awake_any _ (hd.below B_5.out) (hp.below B_5.out) (hE.below B_5.out)).mono ?_
                rintro e w6 ⟨rfl, hb6⟩
                have B_6 := Lib.hid (bthen B_5.out hb6)
                have S_6 := Lib.hid (S_5.out.below hb6)
                have T_6 := Lib.hid (T_5.out.below hb6)
                clear hb6
                go_wp2_with fail
                go_ret
                exact ⟨rfl, B_6.out⟩
              · have HCL := Lib.hid (HCO.out.resolve_left hlm)
                rw [decide_eq_false hlm]
                clear hlm
                go_wp2_with fail
                refine (digested_any l A c _ (hd.below B_5.out) S_5.out HIN.out (by omega)).mono ?_
                rintro e w6 ⟨⟨A7, c7, rfl, hs7, _⟩, hb6⟩
                have B_6 := Lib.hid (bthen B_5.out hb6)
                have S_6 := Lib.hid (S_5.out.below hb6)
                have T_6 := Lib.hid (T_5.out.below hb6)
                clear hb6
                have U_6 := Lib.hid (hs7)
                clear hs7
                go_wp2_with fail
                refine (digested_any m B c9 _ (hd.below B_6.out) T_6.out HJN.out (by omega)).mono ?_
                rintro e w7 ⟨⟨A8, c8, rfl, hs8, _⟩, hb7⟩
                have B_7 := Lib.hid (bthen B_6.out hb7)
                have S_7 := Lib.hid (S_6.out.below hb7)
                have T_7 := Lib.hid (T_6.out.below hb7)
                have U_7 := Lib.hid (U_6.out.below hb7)
                clear hb7
                have V_7 := Lib.hid (hs8)
                clear hs8
                go_wp2_with fail
                refine (collision_any _ _ A7 A8 c7 c8 _ (hd.below B_7.out) U_7.out V_7.out (dgdL_few l (by omega)) (dgdL_few m (by omega)) (dgdL_small l) (dgdL_small m)).mono ?_
                rintro e w8 ⟨rfl, hb8⟩
                rw [HCL.out]
                have B_8 := Lib.hid (bthen B_7.out hb8)
                have S_8 := Lib.hid (S_7.out.below hb8)
                have T_8 := Lib.hid (T_7.out.below hb8)
                have U_8 := Lib.hid (U_7.out.below hb8)
                have V_8 := Lib.hid (V_7.out.below hb8)
                clear hb8
                go_wp2_with fail
                refine (awake_any _ (hd.below B_8.out) (hp.below B_8.out) (hE.below B_8.out)).mono ?_
                rintro e w9 ⟨rfl, hb9⟩
                have B_9 := Lib.hid (bthen B_8.out hb9)
                have S_9 := Lib.hid (S_8.out.below hb9)
                have T_9 := Lib.hid (T_8.out.below hb9)
                have U_9 := Lib.hid (U_8.out.below hb9)
                have V_9 := Lib.hid (V_8.out.below hb9)
                clear hb9
                go_wp2_with fail
                go_ret
                exact ⟨rfl, B_9.out⟩
            · have e1 : (PA.toList == X.toList) = false := str_ne hpq
              have e3 : (PA.toList != X.toList) = true := by rw [bne, e1]; rfl
              have e2 : ¬ PA.toList = X.toList := fun h => by rw [h] at e1; simp at e1
              have HLM := Lib.hid (HNE.out hpq)
              clear hpq
              go_wp2_with fail
              refine (evsame_any l m A B c c9 _ S_4.out T_4.out (by omega) (by omega)).mono ?_
              rintro e w5 ⟨rfl, hb5⟩
              rw [decide_eq_false HLM.out]
              have B_5 := Lib.hid (bthen B4.out hb5)
              have S_5 := Lib.hid (S_4.out.below hb5)
              have T_5 := Lib.hid (T_4.out.below hb5)
              clear hb5
              go_wp2_with fail
              refine (awake_any _ (hd.below B_5.out) (hp.below B_5.out) (hE.below B_5.out)).mono ?_
              rintro e w6 ⟨rfl, hb6⟩
              have B_6 := Lib.hid (bthen B_5.out hb6)
              have S_6 := Lib.hid (S_5.out.below hb6)
              have T_6 := Lib.hid (T_5.out.below hb6)
              clear hb6
              go_wp2_with fail
              go_ret
              exact ⟨rfl, B_6.out⟩
        · have HZa : Hid (l = []) := Lib.hid (List.eq_nil_of_length_eq_zero (by omega))
          have HYa : Hid (HA = [] ∧ PA = X) := Lib.hid (by rw [← HHA.out, ← HPA.out, ← HX.out, HZa.out]; exact ⟨rfl, rfl⟩)
          obtain rfl : HA = [] := HYa.out.1
          have hPa : PA = X := HYa.out.2
          clear HPA
          subst PA
          by_cases hb : 0 < m.length
          · have HHb := Lib.hid (last_head HE2.out (by omega))
            rw [HHB.out, HPB.out] at HHb
            have hnb : 0 < HB.length := by rw [HHb.out.1]; omega
            have hmb : HB.length ≤ 16 := by rw [HHb.out.1]; omega
            obtain ⟨bb, ob, rfl, gb'⟩ := V_4.out (HB.length - 1) (by omega)
            have gb : _ = some (Value.string PB) := gb'.trans (by rw [HHb.out.2])
            have wb : IntKind.i64.wrap ((HB.length : Int) - 1) = (HB.length : Int) - 1 := IntWalk.i64_in _ (by omega)
            have tb : ((HB.length : Int) - 1).toNat = HB.length - 1 := by omega
            have ib : (0 : Int) ≤ (HB.length : Int) - 1 := by omega
            have jb : (1 : Int) ≤ (HB.length : Int) := by omega
            have kb : (HB.length : Int) - 1 < (HB.length : Int) := by omega
            clear gb'
            by_cases hpq : X = PB
            · have e1 : (X.toList != PB.toList) = false := by rw [hpq]; simp
              have e2 : X.toList = PB.toList := by rw [hpq]
              have HCO := Lib.hid (HDT.out hpq)
              clear hpq
              go_wp2_with fail
              refine (evsame_any l m A B c c9 _ S_4.out T_4.out (by omega) (by omega)).mono ?_
              rintro e w5 ⟨rfl, hb5⟩
              have B_5 := Lib.hid (bthen B4.out hb5)
              have S_5 := Lib.hid (S_4.out.below hb5)
              have T_5 := Lib.hid (T_4.out.below hb5)
              clear hb5
              by_cases hlm : l = m
              · rw [decide_eq_true hlm]
                clear hlm
                go_wp2_with fail
                refine (awake_any _ (hd.below B_5.out) (hp.below B_5.out) (hE.below B_5.out)).mono ?_
                rintro e w6 ⟨rfl, hb6⟩
                have B_6 := Lib.hid (bthen B_5.out hb6)
                have S_6 := Lib.hid (S_5.out.below hb6)
                have T_6 := Lib.hid (T_5.out.below hb6)
                clear hb6
                go_wp2_with fail
                go_ret
                exact ⟨rfl, B_6.out⟩
              · have HCL := Lib.hid (HCO.out.resolve_left hlm)
                rw [decide_eq_false hlm]
                clear hlm
                go_wp2_with fail
                refine (digested_any l A c _ (hd.below B_5.out) S_5.out HIN.out (by omega)).mono ?_
                rintro e w6 ⟨⟨A7, c7, rfl, hs7, _⟩, hb6⟩
                have B_6 := Lib.hid (bthen B_5.out hb6)
                have S_6 := Lib.hid (S_5.out.below hb6)
                have T_6 := Lib.hid (T_5.out.below hb6)
                clear hb6
                have U_6 := Lib.hid (hs7)
                clear hs7
                go_wp2_with fail
                refine (digested_any m B c9 _ (hd.below B_6.out) T_6.out HJN.out (by omega)).mono ?_
                rintro e w7 ⟨⟨A8, c8, rfl, hs8, _⟩, hb7⟩
                have B_7 := Lib.hid (bthen B_6.out hb7)
                have S_7 := Lib.hid (S_6.out.below hb7)
                have T_7 := Lib.hid (T_6.out.below hb7)
                have U_7 := Lib.hid (U_6.out.below hb7)
                clear hb7
                have V_7 := Lib.hid (hs8)
                clear hs8
                go_wp2_with fail
                refine (collision_any _ _ A7 A8 c7 c8 _ (hd.below B_7.out) U_7.out V_7.out (dgdL_few l (by omega)) (dgdL_few m (by omega)) (dgdL_small l) (dgdL_small m)).mono ?_
                rintro e w8 ⟨rfl, hb8⟩
                rw [HCL.out]
                have B_8 := Lib.hid (bthen B_7.out hb8)
                have S_8 := Lib.hid (S_7.out.below hb8)
                have T_8 := Lib.hid (T_7.out.below hb8)
                have U_8 := Lib.hid (U_7.out.below hb8)
                have V_8 := Lib.hid (V_7.out.below hb8)
                clear hb8
                go_wp2_with fail
                refine (awake_any _ (hd.below B_8.out) (hp.below B_8.out) (hE.below B_8.out)).mono ?_
                rintro e w9 ⟨rfl, hb9⟩
                have B_9 := Lib.hid (bthen B_8.out hb9)
                have S_9 := Lib.hid (S_8.out.below hb9)
                have T_9 := Lib.hid (T_8.out.below hb9)
                have U_9 := Lib.hid (U_8.out.below hb9)
                have V_9 := Lib.hid (V_8.out.below hb9)
                clear hb9
                go_wp2_with fail
                go_ret
                exact ⟨rfl, B_9.out⟩
            · have e1 : (X.toList == PB.toList) = false := str_ne hpq
              have e3 : (X.toList != PB.toList) = true := by rw [bne, e1]; rfl
              have e2 : ¬ X.toList = PB.toList := fun h => by rw [h] at e1; simp at e1
              have HLM := Lib.hid (HNE.out hpq)
              clear hpq
              go_wp2_with fail
              refine (evsame_any l m A B c c9 _ S_4.out T_4.out (by omega) (by omega)).mono ?_
              rintro e w5 ⟨rfl, hb5⟩
              rw [decide_eq_false HLM.out]
              have B_5 := Lib.hid (bthen B4.out hb5)
              have S_5 := Lib.hid (S_4.out.below hb5)
              have T_5 := Lib.hid (T_4.out.below hb5)
              clear hb5
              go_wp2_with fail
              refine (awake_any _ (hd.below B_5.out) (hp.below B_5.out) (hE.below B_5.out)).mono ?_
              rintro e w6 ⟨rfl, hb6⟩
              have B_6 := Lib.hid (bthen B_5.out hb6)
              have S_6 := Lib.hid (S_5.out.below hb6)
              have T_6 := Lib.hid (T_5.out.below hb6)
              clear hb6
              go_wp2_with fail
              go_ret
              exact ⟨rfl, B_6.out⟩
          · have HZb : Hid (m = []) := Lib.hid (List.eq_nil_of_length_eq_zero (by omega))
            have HYb : Hid (HB = [] ∧ PB = X) := Lib.hid (by rw [← HHB.out, ← HPB.out, ← HX.out, HZb.out]; exact ⟨rfl, rfl⟩)
            obtain rfl : HB = [] := HYb.out.1
            have hPb : PB = X := HYb.out.2
            clear HPB
            subst PB
            by_cases hpq : X = X
            · have e1 : (X.toList != X.toList) = false := by rw [hpq]; simp
              have e2 : X.toList = X.toList := by rw [hpq]
              have HCO := Lib.hid (HDT.out hpq)
              clear hpq
              go_wp2_with fail
              refine (evsame_any l m A B c c9 _ S_4.out T_4.out (by omega) (by omega)).mono ?_
              rintro e w5 ⟨rfl, hb5⟩
              have B_5 := Lib.hid (bthen B4.out hb5)
              have S_5 := Lib.hid (S_4.out.below hb5)
              have T_5 := Lib.hid (T_4.out.below hb5)
              clear hb5
              by_cases hlm : l = m
              · rw [decide_eq_true hlm]
                clear hlm
                go_wp2_with fail
                refine (awake_any _ (hd.below B_5.out) (hp.below B_5.out) (hE.below B_5.out)).mono ?_
                rintro e w6 ⟨rfl, hb6⟩
                have B_6 := Lib.hid (bthen B_5.out hb6)
                have S_6 := Lib.hid (S_5.out.below hb6)
                have T_6 := Lib.hid (T_5.out.below hb6)
                clear hb6
                go_wp2_with fail
                go_ret
                exact ⟨rfl, B_6.out⟩
              · have HCL := Lib.hid (HCO.out.resolve_left hlm)
                rw [decide_eq_false hlm]
                clear hlm
                go_wp2_with fail
                refine (digested_any l A c _ (hd.below B_5.out) S_5.out HIN.out (by omega)).mono ?_
                rintro e w6 ⟨⟨A7, c7, rfl, hs7, _⟩, hb6⟩
                have B_6 := Lib.hid (bthen B_5.out hb6)
                have S_6 := Lib.hid (S_5.out.below hb6)
                have T_6 := Lib.hid (T_5.out.below hb6)
                clear hb6
                have U_6 := Lib.hid (hs7)
                clear hs7
                go_wp2_with fail
                refine (digested_any m B c9 _ (hd.below B_6.out) T_6.out HJN.out (by omega)).mono ?_
                rintro e w7 ⟨⟨A8, c8, rfl, hs8, _⟩, hb7⟩
                have B_7 := Lib.hid (bthen B_6.out hb7)
                have S_7 := Lib.hid (S_6.out.below hb7)
                have T_7 := Lib.hid (T_6.out.below hb7)
                have U_7 := Lib.hid (U_6.out.below hb7)
                clear hb7
                have V_7 := Lib.hid (hs8)
                clear hs8
                go_wp2_with fail
                refine (collision_any _ _ A7 A8 c7 c8 _ (hd.below B_7.out) U_7.out V_7.out (dgdL_few l (by omega)) (dgdL_few m (by omega)) (dgdL_small l) (dgdL_small m)).mono ?_
                rintro e w8 ⟨rfl, hb8⟩
                rw [HCL.out]
                have B_8 := Lib.hid (bthen B_7.out hb8)
                have S_8 := Lib.hid (S_7.out.below hb8)
                have T_8 := Lib.hid (T_7.out.below hb8)
                have U_8 := Lib.hid (U_7.out.below hb8)
                have V_8 := Lib.hid (V_7.out.below hb8)
                clear hb8
                go_wp2_with fail
                refine (awake_any _ (hd.below B_8.out) (hp.below B_8.out) (hE.below B_8.out)).mono ?_
                rintro e w9 ⟨rfl, hb9⟩
                have B_9 := Lib.hid (bthen B_8.out hb9)
                have S_9 := Lib.hid (S_8.out.below hb9)
                have T_9 := Lib.hid (T_8.out.below hb9)
                have U_9 := Lib.hid (U_8.out.below hb9)
                have V_9 := Lib.hid (V_8.out.below hb9)
                clear hb9
                go_wp2_with fail
                go_ret
                exact ⟨rfl, B_9.out⟩
            · exact absurd rfl hpq
      · go_enter Tryz.func7, Tryz.ntmps7
        go_wp2_with fail
        refine (Calls.mono HLI.out ?_)
        rintro e wsame ⟨rfl, rfl⟩
        rw [HL.out]
        go_wp2_with fail
        refine (Calls.mono HMI.out ?_)
        rintro e wsame ⟨rfl, rfl⟩
        rw [HM.out]
        clear HLI HMI
        go_wp2_with fail
        refine (heads_any l A c _ (hd.below B0.out) (hp.below B0.out) HS.out HIN.out (by omega)).mono ?_
        rintro e w1 ⟨hr1, hb1⟩
        rw [HHA.out, HE1.out] at hr1
        obtain ⟨A1, c1, rfl, hs1, _, _⟩ := hr1
        have B_1 := Lib.hid (bthen B0.out hb1)
        have S_1 := Lib.hid (HS.out.below hb1)
        have T_1 := Lib.hid (HT.out.below hb1)
        clear hb1
        have U_1 := Lib.hid (hs1)
        clear hs1
        go_wp2_with fail
        refine (heads_any m B c9 _ (hd.below B_1.out) (hp.below B_1.out) T_1.out HJN.out (by omega)).mono ?_
        rintro e w2 ⟨hr2, hb2⟩
        rw [HHB.out, HE2.out] at hr2
        obtain ⟨A2, c2, rfl, hs2, _, _⟩ := hr2
        have B_2 := Lib.hid (bthen B_1.out hb2)
        have S_2 := Lib.hid (S_1.out.below hb2)
        have T_2 := Lib.hid (T_1.out.below hb2)
        have U_2 := Lib.hid (U_1.out.below hb2)
        clear hb2
        have V_2 := Lib.hid (hs2)
        clear hs2
        have eb : (E1 == 0) = false ∨ (E2 == 0) = false := by
          by_cases h1 : E1 = 0
          · exact .inr (by rw [beq_eq_false_iff_ne]; exact fun h2 => h0 ⟨h1, h2⟩)
          · exact .inl (by rw [beq_eq_false_iff_ne]; exact h1)
        clear h0
        rcases eb with h1 | h2
        · have e1 : (E1 != 0) = true := by rw [bne, h1]; rfl
          have hh1 : ¬ E1 = 0 := by simpa using h1
          go_wp2_with fail
          refine (awake_any _ (hd.below B_2.out) (hp.below B_2.out) (hE.below B_2.out)).mono ?_
          rintro e w3 ⟨rfl, hb3⟩
          have B_3 := Lib.hid (bthen B_2.out hb3)
          have S_3 := Lib.hid (S_2.out.below hb3)
          have T_3 := Lib.hid (T_2.out.below hb3)
          have U_3 := Lib.hid (U_2.out.below hb3)
          have V_3 := Lib.hid (V_2.out.below hb3)
          clear hb3
          go_wp2_with fail
          go_ret
          exact ⟨rfl, B_3.out⟩
        · by_cases h1 : E1 = 0
          · subst h1
            have e2 : (E2 != 0) = true := by rw [bne, h2]; rfl
            have hh2 : ¬ E2 = 0 := by simpa using h2
            go_wp2_with fail
            refine (awake_any _ (hd.below B_2.out) (hp.below B_2.out) (hE.below B_2.out)).mono ?_
            rintro e w3 ⟨rfl, hb3⟩
            have B_3 := Lib.hid (bthen B_2.out hb3)
            have S_3 := Lib.hid (S_2.out.below hb3)
            have T_3 := Lib.hid (T_2.out.below hb3)
            have U_3 := Lib.hid (U_2.out.below hb3)
            have V_3 := Lib.hid (V_2.out.below hb3)
            clear hb3
            go_wp2_with fail
            go_ret
            exact ⟨rfl, B_3.out⟩
          · have e1 : (E1 != 0) = true := by rw [bne_iff_ne]; exact h1
            go_wp2_with fail
            refine (awake_any _ (hd.below B_2.out) (hp.below B_2.out) (hE.below B_2.out)).mono ?_
            rintro e w3 ⟨rfl, hb3⟩
            have B_3 := Lib.hid (bthen B_2.out hb3)
            have S_3 := Lib.hid (S_2.out.below hb3)
            have T_3 := Lib.hid (T_2.out.below hb3)
            have U_3 := Lib.hid (U_2.out.below hb3)
            have V_3 := Lib.hid (V_2.out.below hb3)
            clear hb3
            go_wp2_with fail
            go_ret
            exact ⟨rfl, B_3.out⟩
    · have HM : Hid (lightB m = false) := Lib.hid (by simpa using hmi)
      clear hmi
      go_enter Tryz.func7, Tryz.ntmps7
      go_wp2_with fail
      refine (Calls.mono HLI.out ?_)
      rintro e wsame ⟨rfl, rfl⟩
      rw [HL.out]
      go_wp2_with fail
      refine (Calls.mono HMI.out ?_)
      rintro e wsame ⟨rfl, rfl⟩
      rw [HM.out]
      go_wp2_with fail
      refine (awake_any _ (hd.below B0.out) (hp.below B0.out) (hE.below B0.out)).mono ?_
      rintro e w1 ⟨rfl, hb1⟩
      have B_1 := Lib.hid (bthen B0.out hb1)
      clear hb1
      go_wp2_with fail
      go_ret
      exact ⟨rfl, B_1.out⟩
  · have HL : Hid (lightB l = false) := Lib.hid (by simpa using hli)
    clear hli
    go_enter Tryz.func7, Tryz.ntmps7
    go_wp2_with fail
    refine (Calls.mono HLI.out ?_)
    rintro e wsame ⟨rfl, rfl⟩
    rw [HL.out]
    go_wp2_with fail
    refine (awake_any _ (hd.below B0.out) (hp.below B0.out) (hE.below B0.out)).mono ?_
    rintro e w1 ⟨rfl, hb1⟩
    have B_1 := Lib.hid (bthen B0.out hb1)
    clear hb1
    go_wp2_with fail
    go_ret
    exact ⟨rfl, B_1.out⟩

set_option maxRecDepth 100000 in
/-- What the walk gives, for every argument and every world that holds the listed variables. -/
theorem contract (H : Type) (enc : TypeId × Value → H) (W : World) (base : Nat) (args : Array Value) (ds gs : List (DataW H)) (before : List MemPlace)
    (hval : ∀ (j : Nat) t v, Tryz.f7.params[j]? = some t → args[j]? = some v → Value.okWide Tryz.prog W .any base t v)
    (hW : DataW.Whole enc Tryz.prog Tryz.f7.params.toList Rows.auditDetectsSpec.vars false W args.toList ds gs before) (hL : laidMetH Tryz.prog Rows.auditDetectsRow.laid W) :
    Calls Tryz.prog 7 args W fun e W' => ∃ v, e = .returned v ∧ Rows.auditDetectsSpec.post enc Tryz.prog Tryz.f7 false true false false W args v W' := by
  have hW' := hW
  obtain ⟨p, q, hA0, hV, rfl, hfz, hnd⟩ := hW
  obtain ⟨rfl, rfl⟩ := trodVars_none hV
  have hA1 : DataW.TrodAll enc Tryz.prog W 0 (fun _ => true) true Tryz.f7.params.toList args.toList ds (p ++ []) := by rw [List.append_nil]; exact hA0
  have hA : DataW.TrodAll enc Tryz.prog W 0 (fun _ => true) true Tryz.f7.params.toList args.toList ds p := hA0
  rw [Tryz.params7] at hA hval
  obtain ⟨v0, vs0, d0, ds0, p0, q0, hargs, rfl, rfl, h0, r0⟩ := trodAll_cons hA
  obtain ⟨v1, vs1, d1, ds1, p1, q1, rfl, rfl, rfl, h1, r1⟩ := trodAll_cons r0
  obtain ⟨rfl, rfl, rfl⟩ := trodAll_nil r1
  obtain rfl : args = #[v0, v1] := by cases args; simp_all
  obtain ⟨A0, l0, c0, rfl, hS0, _, hl0, hin0⟩ := open_evs Tryz.underlying26 Tryz.underlying24 (by kernel_rfl) ⟨rfl, rfl, rfl, rfl, rfl, rfl⟩ Tryz.underlying3 Tryz.underlying9 Tryz.underlying9 Tryz.underlying9 Tryz.underlying9 Tryz.underlying22 ⟨by kernel_rfl, by kernel_rfl, by kernel_rfl, by kernel_rfl, by kernel_rfl, by kernel_rfl⟩ (hval 0 26 v0 rfl rfl) h0
  obtain ⟨A1, l1, c1, rfl, hS1, _, hl1, hin1⟩ := open_evs Tryz.underlying26 Tryz.underlying24 (by kernel_rfl) ⟨rfl, rfl, rfl, rfl, rfl, rfl⟩ Tryz.underlying3 Tryz.underlying9 Tryz.underlying9 Tryz.underlying9 Tryz.underlying9 Tryz.underlying22 ⟨by kernel_rfl, by kernel_rfl, by kernel_rfl, by kernel_rfl, by kernel_rfl, by kernel_rfl⟩ (hval 1 26 v1 rfl rfl) h1
  obtain ⟨hd, hp, hE⟩ := laid_tabs hL
  refine (walk l0 A0 c0 l1 A1 c1 W hd hp hE hS0 hin0 hl0 hS1 hin1 hl1).mono fun e W' ⟨he, hb⟩ => ?_
  subst he
  exact ⟨_, rfl, law_post laidOut (by kernel_rfl) (by kernel_rfl) Tryz.underlying4 hW' rfl rfl hA1 hb⟩

set_option maxRecDepth 100000 in
theorem reads (w : World) {H : Type} (enc : TypeId × Value → H) : ∃ places, DataW.whole enc Tryz.prog w Tryz.f7.params.toList Rows.auditDetectsSpec.vars false #[Value.slice none 0 0, .slice none 0 0].toList 8 = some ([.nil, .nil], [], places) :=
  ⟨[], by kernel_rfl⟩
theorem args_ok (w : World) : Input.okWideB Tryz.prog w 7 ⟨#[], #[.slice none 0 0, .slice none 0 0], []⟩ = true := by kernel_rfl
set_option maxRecDepth 100000 in
theorem lifted (os : Os) (started : os.Started) (H : Type) (enc : TypeId × Value → H) (F : Stop.Interp) :
    ReturnsInHanded {} Tryz.checked os 7 .any ((OpenSpec.ofChange Rows.auditDetectsSpec).preRow enc Tryz.prog Tryz.f7 Rows.auditDetectsRow.domain false Rows.auditDetectsRow.laid) (((OpenSpec.ofChange Rows.auditDetectsSpec).at F).post enc Tryz.prog Tryz.f7 false true false false) := by
  obtain ⟨places, hx⟩ := reads _ enc
  refine returnsInHanded_of_row (C := Tryz.checked) (s := OpenSpec.ofChange Rows.auditDetectsSpec) own started (by kernel_rfl) Tryz.func7
    (witness_row_at (enc := enc) (C := Tryz.checked) false (World.laidAll Tryz.prog os laidList) #[.slice none 0 0, .slice none 0 0] (World.laidAll_os _ _ _) (w_hv os _) (w_hr os _) (args_ok _)
      (OpenSpec.preRow_of_cond 8 hx (by kernel_rfl) (fun k hk => by cases hk) (by kernel_rfl) (w_laid os _))) ?_
  intro W base args ds gs before hval hW _ _ _ hL _ _
  exact contract H enc W base args ds gs before hval hW hL

theorem said : Rows.AuditDetectsSaid :=
  OpenClaim.holds_of_cond 7 Tryz.f7 rfl rfl rfl rfl rfl rfl rfl ⟨rfl, rfl, rfl, rfl, rfl⟩ rfl rfl rfl rfl rfl (by kernel_rfl) Tryz.func7 (by kernel_rfl)
    (of_decide_eq_true (by kernel_rfl)) (by unfold Func.isWrapper; first | (rw [if_pos (by decide +kernel)]; kernel_rfl) | (rw [if_neg (by decide +kernel)]; exact ⟨rfl, rfl⟩))
    (fun os started H enc _ F => by rw [OpenClaim.pre_eq_preRow]; exact lifted os started H enc F)

theorem plain (f : FuncId) (fn : Func) (hf : Tryz.pinned.checked.prog.funcNamed Rows.auditDetectsRow.func = some f) (hfn : Tryz.pinned.checked.prog.funcs[f]? = some fn) :
    true = Tryz.pinned.checked.prog.looks [] ∧ ∀ (j : Nat) t, fn.params[j]? = some t → Tryz.pinned.checked.prog.wantsStandIn t = false := by
  obtain rfl : f = 7 := Option.some.inj ((show Tryz.prog.funcNamed Rows.auditDetectsRow.func = some 7 by kernel_rfl).symm.trans hf) |>.symm
  obtain rfl : fn = Tryz.f7 := (Option.some.inj (Tryz.func7.symm.trans hfn)).symm
  refine ⟨by kernel_rfl, fun j t ht => ?_⟩
  rw [Tryz.params7] at ht
  have hm : t ∈ [26, 26] := by simpa using Array.mem_of_getElem? ht
  have hall : ([26, 26].all fun u => !Tryz.prog.wantsStandIn u) = true := by kernel_rfl
  exact (show Tryz.prog.wantsStandIn t = false by simpa using List.all_eq_true.1 hall t hm)

theorem card : Rows.AuditDetectsCardSaid :=
  Claim7.holds_tied_plain_at .later [] _ _ _ _ said (fun _ h => by cases h) (by kernel_rfl) (fun _ h => by cases h) auditDetects_row_tie rfl ⟨rfl, rfl⟩ (by kernel_rfl) rfl plain (by kernel_rfl)
end Go.Proofs.YthdpkfddmkijlaaGreatDoor.auditDetects
