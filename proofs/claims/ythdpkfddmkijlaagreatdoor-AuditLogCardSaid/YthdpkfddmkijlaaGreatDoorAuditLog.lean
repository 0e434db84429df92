/- AuditLog: for every list of events and every tenant the law answers true and leaves its arguments alone; no condition. -/
import Derived.Deep.RegionHeld3
import Derived.Maps.AppendAt
import Derived.Lay
import Derived.Test.YthdpkfddmkijlaaGreatDoorCards
import Derived.Test.YthdpkfddmkijlaaGreatDoorTie
import Derived.Test.YthdpkfddmkijlaaGreatDoorSeg11
import Derived.Test.YthdpkfddmkijlaaGreatDoorSeg10
import Derived.Test.YthdpkfddmkijlaaGreatDoorSeg9
import Derived.Test.YthdpkfddmkijlaaGreatDoorSeg5
import Derived.Test.YthdpkfddmkijlaaGreatDoorSeg6
import Derived.Test.YthdpkfddmkijlaaGreatDoorSeg7
namespace Go.Proofs.YthdpkfddmkijlaaGreatDoor.auditLog
open Go.ChangeShapes Go.WideShapes Go.ChangeAt Go.RowKit
open Go.ChangeMaps (open_string)


theorem ofT_snoc (m : List Ev) (x : Ev) (s : ByteArray) : ofT (m ++ [x]) s = if x.tenant = s then ofT m s ++ [x] else ofT m s := by
  rw [ofT, ofT, List.filter_append]
  by_cases h : x.tenant = s
  · rw [if_pos h]; simp [h]
  · rw [if_neg h]; simp [h]
theorem verS_self {m : List Ev} (h : ∀ e ∈ m, lineE e = 0) : firstE m = 0 ∧ verS m (headsS m) = -1 := by
  have hf := firstE_all.2 h
  exact ⟨hf, by rw [headsS, if_pos hf, verS, ver_self m startS 0 h]; rfl⟩
theorem last_head {l : List Ev} (hl : firstE l = 0) (h : 0 < l.length) : (headsS l).length = l.length ∧ ∀ (hn : (headsS l).length - 1 < (headsS l).length), (headsS l)[(headsS l).length - 1] = headF startS l := by
  have e : headsS l = headsF startS l := by rw [headsS, if_pos hl]
  have e2 := heads_len startS l
  refine ⟨by rw [e, e2], fun hn => ?_⟩
  have h3 := heads_at startS l (l.length - 1) (by omega)
  rw [show l.length - 1 + 1 = l.length by omega, List.take_length] at h3
  rw [← h3]
  congr 1
  rw [e, e2]
/-- What stays while the law looks. -/
def Bun (w0 w : World) (g : Nat) (vL vS : Value) (m : List Ev) (AW : Option Addr) (cW : Nat) (AO : Option Addr) (cO : Nat) (O : List Ev) (AH : Option Addr) (HA : List ByteArray) : Prop :=
  Three w0 w g vL vS m (.slice AW m.length cW) m (.slice AO O.length cO) O ∧ EvsAt w AW m ∧ EvsAt w AO O ∧ Strs w AH HA
theorem Bun.below {w0 w w' : World} {g : Nat} {vL vS : Value} {m : List Ev} {AW : Option Addr} {cW : Nat} {AO : Option Addr} {cO : Nat} {O : List Ev} {AH : Option Addr} {HA : List ByteArray} (h : Bun w0 w g vL vS m AW cW AO cO O AH HA) (hb : Below w.heap.size w w') : Bun w0 w' g vL vS m AW cW AO cO O AH HA :=
  ⟨h.1.below hb, h.2.1.below hb, h.2.2.1.below hb, h.2.2.2.below hb⟩
theorem prove_each (m : List Ev) (k : Nat) (h : k < m.length) : pathE (m.map lineS) (k : Int) = 0 ∧ provesS (rootS (m.map lineS)) (lineS m[k]) (k : Int) (m.length : Int) (pathS (m.map lineS) (k : Int)) = true := by
  have h' : k < (m.map lineS).length := by rw [List.length_map]; exact h
  have h2 := proven (m.map lineS) k h'
  simp only [List.getElem_map, List.length_map] at h2
  exact ⟨by simp [pathE, pathIn, h], h2⟩
theorem path_ok (L : List ByteArray) (k : Nat) (h : k < L.length) : pathE L k = 0 := by simp [pathE, pathIn, h]
set_option maxHeartbeats 8000000 in
set_option maxRecDepth 100000 in
theorem walk (l : List Ev) (A : Option Addr) (c : Nat) (s : ByteArray) (w : World) (hd : DigOk w) (hp : PowOk w) (hE : ErrsOk w) (hS : EvsAt w A l) (hin : ∀ x ∈ l, EvIn x) (hl : l.length ≤ 9223372036854775807) :
    Calls Tryz.prog 9 #[.slice A l.length c, .string s] w fun e w' => e = .returned (.bool true) ∧ Below w.heap.size w w' := by
  obtain ⟨i0, hi, hz0, hz1, hz2⟩ := info_parts info_ev
  have HS := Lib.hid hS
  have HIN := Lib.hid hin
  have B0 := Lib.hid (Below.refl w.heap.size w)
  clear hS hin
  have HLI := Lib.hid (light_any l A c w HS.out hl)
  by_cases hli : lightB l = true
  · have HL := Lib.hid hli
    have hl16 := (lightB_facts hli).1
    clear hli
    by_cases hsz : 200 < s.size
    · have t1 : decide ((200 : Int) < (s.size : Int)) = true := decide_eq_true (by omega)
      go_enter Tryz.func9, Tryz.ntmps9
      go_wp2_with fail
      refine (Calls.mono HLI.out ?_)
      rintro e wsame ⟨rfl, rfl⟩
      rw [HL.out]
      go_wp2_with fail
      refine (awake_any _ (hd.below B0.out) (hp.below B0.out) (hE.below B0.out)).mono ?_
      rintro e w1 ⟨rfl, hb1⟩
      have B_1 := Lib.hid (bthen B0.out hb1)
      clear hb1
      go_wp2_with fail
      go_ret
      exact ⟨rfl, B_1.out⟩
    · have t1 : decide ((200 : Int) < (s.size : Int)) = false := decide_eq_false (by omega)
      go_enter Tryz.func9, Tryz.ntmps9
      go_wp2_with fail
      refine (Calls.mono HLI.out ?_)
      rintro e wsame ⟨rfl, rfl⟩
      rw [HL.out]
      clear HLI
      go_wp2_with fail
      refine (lnew_any _ hd).mono ?_
      rintro e w1 ⟨⟨g, vL0, vS0, rfl, hn1⟩, hb1⟩
      have T1 := Lib.hid (Three.new hn1 hb1)
      clear hn1 hb1
      go_wp2_with fail
      go_loopw [6, 7, 8] (fun v1 v2 i wr => ∃ (k : Nat) (vL vS : Value) (m : List Ev), k ≤ l.length ∧ i = .int .i64 k ∧ Hid (Three w wr g vL vS m v1 m v2 (ofT m s)) ∧ m.length ≤ k) (fun _ _ i _ => l.length - (intOf i).toNat)
      case atStart => exact ⟨0, vL0, vS0, [], Nat.zero_le _, rfl, T1, Nat.le_refl _⟩
      case round =>
        obtain ⟨k, vL, vS, m, hk, rfl, HT, hm⟩ := hrel
        clear T1
        by_cases hlt : k < l.length
        · obtain ⟨b, o, rfl, c0, c1, c2, c3, c4, c5⟩ := (HS.out.below HT.out.base) k hlt
          have HC0 := Lib.hid (HS.out k hlt)
          have hxi := HIN.out _ (List.getElem_mem hlt)
          obtain ⟨x, HXE⟩ : ∃ x, Hid (l[k] = x) := ⟨_, Lib.hid rfl⟩
          rw [HXE.out] at c0 c1 c2 c3 c4 c5 hxi HC0
          obtain ⟨t, tn, ac, an, ob, r⟩ := x
          have HX := Lib.hid hxi
          have d0 : _ = some (Value.int .i64 t) := c0
          have d1 : _ = some (Value.string tn) := c1
          have d2 : _ = some (Value.string ac) := c2
          have d3 : _ = some (Value.string an) := c3
          have d4 : _ = some (Value.string ob) := c4
          have d5 : _ = some (Value.int .i64 r) := c5
          clear c0 c1 c2 c3 c4 c5 hxi
          have HEN := Lib.hid (fun W n h => evc_at' W ⟨t, tn, ac, an, ob, r⟩ n h)
          have HEO := Lib.hid (evc_one ⟨t, tn, ac, an, ob, r⟩)
          have HOT := Lib.hid (ofT_snoc m ⟨t, tn, ac, an, ob, r⟩ s)
          have hO16 : (ofT m s).length ≤ 16 := by have := ofT_len m s; omega
          have HKB : Hid (∀ w', Below w.heap.size w w' → w'.cell? ⟨b, o + k * 6, none⟩ = some (.int .i64 t) ∧ w'.cell? ⟨b, o + k * 6 + 1, none⟩ = some (.string tn) ∧ w'.cell? ⟨b, o + k * 6 + 2, none⟩ = some (.string ac) ∧ w'.cell? ⟨b, o + k * 6 + 3, none⟩ = some (.string an) ∧ w'.cell? ⟨b, o + k * 6 + 4, none⟩ = some (.string ob) ∧ w'.cell? ⟨b, o + k * 6 + 5, none⟩ = some (.int .i64 r)) := Lib.hid (fun w' hb => by
            obtain ⟨b', o', hbo, e0, e1, e2, e3, e4, e5⟩ := HC0.out
            injection hbo with hbo
            injection hbo with hb1 hb2
            rw [hb1, hb2]
            have hlt' := World.block_lt_of_cell? _ _ e0
            have hc : ∀ j, w'.cell? ⟨b', j, none⟩ = w.cell? ⟨b', j, none⟩ := fun j => hb.cell (p := ⟨b', j, none⟩) hlt'
            exact ⟨(hc _).trans e0, (hc _).trans e1, (hc _).trans e2, (hc _).trans e3, (hc _).trans e4, (hc _).trans e5⟩)
          obtain ⟨E, HEE⟩ : ∃ E, Hid (lineE ⟨t, tn, ac, an, ob, r⟩ = E) := ⟨_, Lib.hid rfl⟩
          go_wp2_with fail
          refine (ladd_any ⟨t, tn, ac, an, ob, r⟩ w _ HX.out hd hp HT.out.base g vL vS m HT.out.log (by omega)).mono ?_
          rintro e w4 ⟨rfl, ha4⟩
          rw [HEE.out]
          by_cases h0 : E = 0
          · have HA : Hid (addE m ⟨t, tn, ac, an, ob, r⟩ = m ++ [⟨t, tn, ac, an, ob, r⟩]) := Lib.hid (by rw [addE, if_pos (HEE.out.trans h0)])
            subst h0
            rw [HA.out] at ha4
            obtain ⟨vL4, vS4, ht4⟩ := HT.out.add ha4
            have T4 := Lib.hid ht4
            clear ha4 ht4 d0 d1 d2 d3 d4 d5
            obtain ⟨d0, d1, d2, d3, d4, d5⟩ := HKB.out _ T4.out.base
            by_cases htn : tn = s
            · have t3 : (tn.toList == s.toList) = true := by rw [htn]; simp
              have t4 : tn.toList = s.toList := by rw [htn]
              have HO2 : Hid (ofT (m ++ [⟨t, tn, ac, an, ob, r⟩]) s = ofT m s ++ [⟨t, tn, ac, an, ob, r⟩]) := Lib.hid (by rw [HOT.out, if_pos htn])
              clear htn
              go_wp2_with (first
                | (at_builtin; refine wpList_append_own_at _ rfl _ _ 26 rfl w.heap.size 24 i0 _ 6 80 Tryz.underlying26 hi hz0 hz1 hz2 rfl (by decide) _ (ofT m s).length (evCs (ofT m s)) rfl (T5.out.two.alloc _) ⟨w5.heap.size, 0, none⟩ 1 1 (evC ⟨t, tn, ac, an, ob, r⟩) rfl rfl (HEN.out _ w5.heap.size rfl) HEO.out (by unfold maxLen; omega) (by omega) (by have := T5.out.base.size; simp; omega) ?_; intro v6 w6 ho6 hg6 _ hat6; have T6 := Lib.hid ((T5.out.below ((Below.refl w5.heap.size w5).alloc (Nat.le_refl _) _)).app2 ho6 hg6 hat6); clear ho6 hg6 hat6; obtain ⟨d0, d1, d2, d3, d4, d5⟩ := HKB.out _ T6.out.base)
                | (at_builtin; refine wpList_append_own_at _ rfl _ _ 26 rfl w.heap.size 24 i0 _ 6 80 Tryz.underlying26 hi hz0 hz1 hz2 rfl (by decide) _ m.length (evCs m) rfl (T4.out.one.alloc _) ⟨w4.heap.size, 0, none⟩ 1 1 (evC ⟨t, tn, ac, an, ob, r⟩) rfl rfl (HEN.out _ w4.heap.size rfl) HEO.out (by unfold maxLen; omega) (by omega) (by have := T4.out.base.size; simp; omega) ?_; intro v5 w5 ho5 hg5 _ hat5; have T5 := Lib.hid ((T4.out.below ((Below.refl w4.heap.size w4).alloc (Nat.le_refl _) _)).app1 ho5 hg5 hat5); clear ho5 hg5 hat5; obtain ⟨d0, d1, d2, d3, d4, d5⟩ := HKB.out _ T5.out.base)
                | fail)
              go_roundw
              case rel => exact ⟨k + 1, vL4, vS4, m ++ [⟨t, tn, ac, an, ob, r⟩], hlt, by go_num, by rw [HO2.out]; exact T6, by simp; omega⟩
              case measure => simp [intOf]; omega
            · have t3 : (tn.toList == s.toList) = false := str_ne htn
              have t4 : ¬ tn.toList = s.toList := fun h => by rw [h] at t3; simp at t3
              have HO2 : Hid (ofT (m ++ [⟨t, tn, ac, an, ob, r⟩]) s = ofT m s) := Lib.hid (by rw [HOT.out, if_neg htn])
              clear htn
              go_wp2_with (first
                | (at_builtin; refine wpList_append_own_at _ rfl _ _ 26 rfl w.heap.size 24 i0 _ 6 80 Tryz.underlying26 hi hz0 hz1 hz2 rfl (by decide) _ m.length (evCs m) rfl (T4.out.one.alloc _) ⟨w4.heap.size, 0, none⟩ 1 1 (evC ⟨t, tn, ac, an, ob, r⟩) rfl rfl (HEN.out _ w4.heap.size rfl) HEO.out (by unfold maxLen; omega) (by omega) (by have := T4.out.base.size; simp; omega) ?_; intro v5 w5 ho5 hg5 _ hat5; have T5 := Lib.hid ((T4.out.below ((Below.refl w4.heap.size w4).alloc (Nat.le_refl _) _)).app1 ho5 hg5 hat5); clear ho5 hg5 hat5; obtain ⟨d0, d1, d2, d3, d4, d5⟩ := HKB.out _ T5.out.base)
                | fail)
              go_roundw
              case rel => exact ⟨k + 1, vL4, vS4, m ++ [⟨t, tn, ac, an, ob, r⟩], hlt, by go_num, by rw [HO2.out]; exact T5, by simp; omega⟩
              case measure => simp [intOf]; omega
          · have HA : Hid (addE m ⟨t, tn, ac, an, ob, r⟩ = m) := Lib.hid (by rw [addE, if_neg (fun h => h0 (HEE.out.symm.trans h))])
            have e0 : (E == 0) = false := by rw [beq_eq_false_iff_ne]; exact h0
            rw [HA.out] at ha4
            obtain ⟨vL4, vS4, ht4⟩ := HT.out.add ha4
            have T4 := Lib.hid ht4
            clear ha4 ht4 d0 d1 d2 d3 d4 d5
            go_wp2_with fail
            go_roundw
            case rel => exact ⟨k + 1, vL4, vS4, m, hlt, by go_num, T4, by omega⟩
            case measure => simp [intOf]; omega
        · have hm16 : m.length ≤ 16 := by omega
          obtain ⟨AW, cW, hv1, he1, _, hc1⟩ := RetEvs.own HT.out.one rfl
          injection hv1 with hv1
          subst hv1
          obtain ⟨AO, cO, hv2, he2, _, hc2⟩ := RetEvs.own HT.out.two rfl
          injection hv2 with hv2
          subst hv2
          have EW := Lib.hid he1
          have EO := Lib.hid he2
          have HMI := Lib.hid HT.out.log.inn
          have HMV := Lib.hid HT.out.log.valid
          have HVS := Lib.hid (verS_self HMV.out)
          obtain ⟨HA, HHA⟩ : ∃ H, Hid (headsS m = H) := ⟨_, Lib.hid rfl⟩
          rw [HHA.out] at HVS
          clear he1 he2 hc1 hc2 hm
          go_wp2_with fail
          refine (heads_any m AW cW _ (hd.below HT.out.base) (hp.below HT.out.base) EW.out HMI.out (by omega)).mono ?_
          rintro e w3 ⟨hr3, hb3⟩
          rw [HHA.out, HVS.out.1] at hr3
          obtain ⟨AH, cH, rfl, hs3, _, _⟩ := hr3
          have N3 : Hid (Bun w w3 g vL vS m AW cW AO cO (ofT m s) AH HA) := Lib.hid ⟨HT.out.below hb3, EW.out.below hb3, EO.out.below hb3, hs3⟩
          have D3 := Lib.hid (N3.out.below (Below.refl _ _).drew)
          obtain ⟨O, HOO⟩ : ∃ O, Hid (ofT m s = O) := ⟨_, Lib.hid rfl⟩
          have hO16 : O.length ≤ 16 := by rw [← HOO.out]; have := ofT_len m s; omega
          rw [HOO.out] at N3 D3
          obtain ⟨P, HP⟩ : ∃ P, Hid (headF startS m = P) := ⟨_, Lib.hid rfl⟩
          have mln : ((m.length : Int) != (m.length : Int)) = false := by simp
          have ppn : (P.toList != P.toList) = false := by simp
          rw [HOO.out]
          clear hb3 hs3 HT EW EO
          by_cases hm0 : 0 < m.length
          · have HLH := Lib.hid (last_head HVS.out.1 hm0)
            rw [HHA.out, HP.out] at HLH
            have hn : 0 < HA.length := by rw [HLH.out.1]; omega
            have hnm : HA.length ≤ 16 := by rw [HLH.out.1]; omega
            obtain ⟨b3, o3, rfl, g3'⟩ := N3.out.2.2.2 (HA.length - 1) (by omega)
            have g3 : _ = some (Value.string P) := g3'.trans (by rw [HLH.out.2])
            have HGB : Hid (∀ w', Strs w' (some ⟨b3, o3, none⟩) HA → w'.cell? ⟨b3, o3 + (HA.length - 1), none⟩ = some (.string P)) := Lib.hid (fun w' hs => by
              obtain ⟨b', o', e', hc'⟩ := hs (HA.length - 1) (by omega)
              injection e' with e'
              injection e' with e1 e2
              subst e1
              subst e2
              exact hc'.trans (by rw [HLH.out.2]))
            have HG0 : Hid (w3.drew.cell? ⟨b3, o3 + (HA.length - 1), none⟩ = some (.string P)) := Lib.hid g3
            have q1 : IntKind.i64.wrap ((HA.length : Int) - 1) = (HA.length : Int) - 1 := IntWalk.i64_in _ (by omega)
            have q2 : ((HA.length : Int) - 1).toNat = HA.length - 1 := by omega
            have q3 : (0 : Int) ≤ (HA.length : Int) - 1 := by omega
            have q4 : (1 : Int) ≤ (HA.length : Int) := by omega
            have q5 : (HA.length : Int) - 1 < (HA.length : Int) := by omega
            have q6 : decide ((0 : Int) < (HA.length : Int)) = true := decide_eq_true (by omega)
            have q7 : decide (0 < HA.length) = true := decide_eq_true hn
            clear g3'
            go_wp2_with fail
            first
              | go_region_held3 (fun w' => w'.cell? ⟨b3, o3 + (HA.length - 1), none⟩ = some (.string P))
                  (first | go_keep | (exact HG0.out) | (exact HGB.out _ N9.out.2.2.2) | (exact HGB.out _ N8.out.2.2.2) | (exact HGB.out _ N7.out.2.2.2) | (exact HGB.out _ N6.out.2.2.2) | (exact HGB.out _ N5.out.2.2.2) | (exact HGB.out _ N4.out.2.2.2))
                  (first
                    | (go_at_call 26; refine (lhead_any _ w.heap.size g vL vS m ?_).mono ?_; exact N9.out.1.log; rintro e wsame ⟨rfl, rfl⟩; rw [HP.out])
                    | (go_at_call 20; refine (verify_any m A8 c8 HA (some ⟨b3, o3, none⟩) cH _ ?_ ?_ ?_ ?_ ?_ ?_).mono ?_; exact hd.below N8.out.1.base; exact hp.below N8.out.1.base; exact E8.out; exact HMI.out; exact N8.out.2.2.2; omega; rintro e w9 ⟨rfl, hb9⟩; rw [HVS.out.2]; have N9 := Lib.hid (N8.out.below hb9); clear hb9)
                    | (go_at_call 33; refine (lall_any _ w.heap.size g vL vS m ?_ ?_).mono ?_; exact N7.out.1.log; omega; rintro e w8 ⟨⟨A8, c8, rfl, he8, _, _⟩, hb8⟩; have N8 := Lib.hid (N7.out.below hb8); have E8 := Lib.hid he8; clear hb8 he8)
                    | (go_at_call 28; refine (llen_any _ w.heap.size g vL vS m ?_).mono ?_; exact N7.out.1.log; rintro e wsame ⟨rfl, rfl⟩)
                    | (go_at_call 32; refine (evsame_any O O A6 AO c6 cO _ ?_ ?_ ?_ ?_).mono ?_; exact E6.out; exact N6.out.2.2.1; omega; omega; rintro e w7 ⟨rfl, hb7⟩; rw [decide_eq_true rfl]; have N7 := Lib.hid (N6.out.below hb7); clear hb7)
                    | (go_at_call 35; refine (levents_any s _ w.heap.size g vL vS m ?_ ?_).mono ?_; exact N5.out.1.log; omega; rintro e w6 ⟨hr6, hb6⟩; rw [HOO.out] at hr6; obtain ⟨A6, c6, rfl, he6, _, _⟩ := hr6; have N6 := Lib.hid (N5.out.below hb6); have E6 := Lib.hid he6; clear hb6 he6)
                    | (go_at_call 32; refine (evsame_any m m A4 AW c4 cW _ ?_ ?_ ?_ ?_).mono ?_; exact E4.out; exact N4.out.2.1; omega; omega; rintro e w5 ⟨rfl, hb5⟩; rw [decide_eq_true rfl]; have N5 := Lib.hid (N4.out.below hb5); clear hb5)
                    | (go_at_call 33; refine (lall_any _ w.heap.size g vL vS m ?_ ?_).mono ?_; exact D3.out.1.log; omega; rintro e w4 ⟨⟨A4, c4, rfl, he4, _, _⟩, hb4⟩; have N4 := Lib.hid (D3.out.below hb4); have E4 := Lib.hid he4; clear hb4 he4)
                    | fail)
              | fail
            clear q1 q2 q3 q4 q5 q6 q7 g3 HG0
            all_goals
              clear mln ppn
              go_wp2_with fail
              go_loopw [11] (fun i wr => ∃ k2 : Nat, k2 ≤ m.length ∧ i = .int .i64 k2 ∧ Hid (Bun w wr g vL vS m AW cW AO cO O (some ⟨b3, o3, none⟩) HA)) (fun i _ => m.length - (intOf i).toNat)
              case atStart => exact ⟨0, Nat.zero_le _, rfl, N9⟩
              case round =>
                obtain ⟨k2, hk2, rfl, HB⟩ := hrel
                clear N3 N4 N5 N6 N7 N8 N9 E4 E6 E8
                by_cases hlt2 : k2 < m.length
                · obtain ⟨b, o, rfl, c0, c1, c2, c3, c4, c5⟩ := HB.out.2.1 k2 hlt2
                  have hxi := HMI.out _ (List.getElem_mem hlt2)
                  have HPV := Lib.hid (prove_each m k2 hlt2)
                  obtain ⟨R, HR⟩ : ∃ R, Hid (rootS (m.map lineS) = R) := ⟨_, Lib.hid rfl⟩
                  obtain ⟨Q, HQ⟩ : ∃ Q, Hid (pathS (m.map lineS) k2 = Q) := ⟨_, Lib.hid rfl⟩
                  rw [HR.out, HQ.out] at HPV
                  obtain ⟨x, HXE⟩ : ∃ x, Hid (m[k2] = x) := ⟨_, Lib.hid rfl⟩
                  rw [HXE.out] at c0 c1 c2 c3 c4 c5 hxi HPV
                  obtain ⟨t, tn, ac, an, ob, r⟩ := x
                  have HX := Lib.hid hxi
                  have d0 : _ = some (Value.int .i64 t) := c0
                  have d1 : _ = some (Value.string tn) := c1
                  have d2 : _ = some (Value.string ac) := c2
                  have d3 : _ = some (Value.string an) := c3
                  have d4 : _ = some (Value.string ob) := c4
                  have d5 : _ = some (Value.int .i64 r) := c5
                  clear c0 c1 c2 c3 c4 c5 hxi
                  obtain ⟨S, HSS⟩ : ∃ S, Hid (lineS ⟨t, tn, ac, an, ob, r⟩ = S) := ⟨_, Lib.hid rfl⟩
                  obtain ⟨E, HEE⟩ : ∃ E, Hid (lineE ⟨t, tn, ac, an, ob, r⟩ = E) := ⟨_, Lib.hid rfl⟩
                  have HSZ : Hid (S.size ≤ 2000) := Lib.hid (by rw [← HSS.out]; exact lineS_size _)
                  have HPZ : Hid (∀ s ∈ Q, s.size ≤ 1000000) := Lib.hid (by rw [← HQ.out]; exact pathS_sizes _ _)
                  have HPL : Hid (Q.length ≤ 1000000) := Lib.hid (by rw [← HQ.out]; exact pathS_length _ _ (by simp; omega))
                  rw [HSS.out] at HPV
                  go_wp2_with fail
                  refine (line_any ⟨t, tn, ac, an, ob, r⟩ _ HX.out (hp.below HB.out.1.base)).mono ?_
                  rintro e w10 ⟨rfl, hb10⟩
                  rw [HSS.out, HEE.out]
                  have B10 := Lib.hid (HB.out.below hb10)
                  clear hb10 d0 d1 d2 d3 d4 d5
                  go_wp2_with fail
                  refine (lprove_any (k2 : Int) _ (hd.below B10.out.1.base) _ g vL vS m B10.out.1.log (by omega)).mono ?_
                  rintro e w11 ⟨hr11, hb11⟩
                  rw [HQ.out, HPV.out.1] at hr11
                  obtain ⟨A11, c11, rfl, hs11, _, hc11⟩ := hr11
                  have B11 := Lib.hid (B10.out.below hb11)
                  have S11 := Lib.hid hs11
                  clear hb11 hs11
                  go_wp2_with fail
                  refine (lroot_any _ (hd.below B11.out.1.base) _ g vL vS m B11.out.1.log (by omega)).mono ?_
                  rintro e w12 ⟨rfl, hb12⟩
                  rw [HR.out]
                  have B12 := Lib.hid (B11.out.below hb12)
                  have S12 := Lib.hid (S11.out.below hb12)
                  clear hb12
                  go_wp2_with fail
                  refine (proves_any R S (k2 : Int) (m.length : Int) Q A11 c11 _ (hd.below B12.out.1.base) S12.out hc11 HPL.out HPZ.out (by have := HSZ.out; omega) (by omega)).mono ?_
                  rintro e w13 ⟨rfl, hb13⟩
                  rw [HPV.out.2]
                  have B13 := Lib.hid (B12.out.below hb13)
                  clear hb13
                  go_wp2_with fail
                  go_roundw
                  case rel => exact ⟨k2 + 1, hlt2, by go_num, B13⟩
                  case measure => simp [intOf]; omega
                · have hke2 : k2 = m.length := by omega
                  go_wp2_with fail
                  refine (awake_any _ (hd.below HB.out.1.base) (hp.below HB.out.1.base) (hE.below HB.out.1.base)).mono ?_
                  rintro e wz ⟨rfl, hbz⟩
                  have BZ := Lib.hid (HB.out.below hbz)
                  clear hbz
                  go_wp2_with fail
                  go_ret
                  exact ⟨rfl, BZ.out.1.base⟩
          · have HZ : Hid (m = []) := Lib.hid (List.eq_nil_of_length_eq_zero (by omega))
            have HZ2 : Hid (HA = []) := Lib.hid (by rw [← HHA.out, HZ.out]; rfl)
            obtain rfl : HA = [] := HZ2.out
            have HGB : Hid (∀ w', Three w w' g vL vS m (.slice AW m.length cW) m (.slice AO O.length cO) O → w'.cell? ⟨g, 2, none⟩ = some (.string P)) := Lib.hid (fun w' h => (cell_of_row w' g 2 _ _ (0, 0) h.log.row).trans (by rw [← HP.out]; rfl))
            have g3 := HGB.out _ N3.out.1
            have HG0 := Lib.hid (HGB.out _ D3.out.1)
            go_wp2_with fail
            refine wp_region_held_drew (S := fun w' => w'.cell? ⟨g, 2, none⟩ = some (.string P)) (by kernel_rfl) ?_ (fun hHeld => ?_)
            · (first | go_keep | (exact HG0.out) | (exact HGB.out _ N9.out.1) | (exact HGB.out _ N8.out.1) | (exact HGB.out _ N7.out.1) | (exact HGB.out _ N6.out.1) | (exact HGB.out _ N5.out.1) | (exact HGB.out _ N4.out.1))
            refine wpAnyH_take (i := 0) (oi := _) (v := ?_) rfl (by kernel_rfl) (by kernel_rfl) (by kernel_rfl) (fun _ _ _ h => h) (Or.inl ⟨by rfl, ?_⟩) (by assumption) ?_
            rotate_left
            · (intro w hSw; (try dsimp only at hSw); go_simp; try with_reducible rfl)
            try simp only [List.getElem_toArray, List.getElem_cons_succ, List.getElem_cons_zero, Act.put, List.setIfInBounds_toArray, List.set_cons_zero, List.set_cons_succ]
            refine wpAnyH_take (i := 1) (oi := _) (v := ?_) rfl (by kernel_rfl) (by kernel_rfl) (by kernel_rfl) (fun _ _ _ h => h) (Or.inl ⟨by rfl, ?_⟩) (by assumption) ?_
            rotate_left
            · (intro w hSw; (try dsimp only at hSw); go_simp; try with_reducible rfl)
            try simp only [List.getElem_toArray, List.getElem_cons_succ, List.getElem_cons_zero, Act.put, List.setIfInBounds_toArray, List.set_cons_zero, List.set_cons_succ]
            refine wpAnyH_take (i := 2) (oi := _) (v := ?_) rfl (by kernel_rfl) (by kernel_rfl) (by kernel_rfl) (fun _ _ _ h => h) (Or.inl ⟨by rfl, ?_⟩) (by assumption) ?_
            rotate_left
            · (intro w hSw; (try dsimp only at hSw); go_simp; try with_reducible rfl)
            try simp only [List.getElem_toArray, List.getElem_cons_succ, List.getElem_cons_zero, Act.put, List.setIfInBounds_toArray, List.set_cons_zero, List.set_cons_succ]
            refine wpAnyH_take (i := 3) (oi := _) (v := ?_) rfl (by kernel_rfl) (by kernel_rfl) (by kernel_rfl) (fun _ _ _ h => h) (Or.inl ⟨by rfl, ?_⟩) (by assumption) ?_
            rotate_left
            · (intro w hSw; (try dsimp only at hSw); go_simp; try with_reducible rfl)
            try simp only [List.getElem_toArray, List.getElem_cons_succ, List.getElem_cons_zero, Act.put, List.setIfInBounds_toArray, List.set_cons_zero, List.set_cons_succ]
            refine wpAnyH_take (i := 5) (oi := _) (v := ?_) rfl (by kernel_rfl) (by kernel_rfl) (by kernel_rfl) (fun _ _ _ h => h) (Or.inl ⟨by rfl, ?_⟩) (by assumption) ?_
            rotate_left
            · (intro w hSw; (try dsimp only at hSw); go_simp; try with_reducible rfl)
            try simp only [List.getElem_toArray, List.getElem_cons_succ, List.getElem_cons_zero, Act.put, List.setIfInBounds_toArray, List.set_cons_zero, List.set_cons_succ]
            refine wpAnyH_ready (rs := [4]) (by kernel_rfl) (by simp) ?_
            refine AllReadyH.cons (o := _) rfl (fun K hK => ?_) AllReadyH.nil
            go_simp
            (go_at_call 33; refine (lall_any _ w.heap.size g vL vS m ?_ ?_).mono ?_; exact D3.out.1.log; omega; rintro e w4 ⟨⟨A4, c4, rfl, he4, _, _⟩, hb4⟩; have N4 := Lib.hid (D3.out.below hb4); have E4 := Lib.hid he4; clear hb4 he4)
            clear hHeld
            refine hK.out _ _ ?_ (fun hHeld => ?_)
            · (try dsimp only); (first | go_keep | (exact HG0.out) | (exact HGB.out _ N9.out.1) | (exact HGB.out _ N8.out.1) | (exact HGB.out _ N7.out.1) | (exact HGB.out _ N6.out.1) | (exact HGB.out _ N5.out.1) | (exact HGB.out _ N4.out.1))
            clear hK K
            try simp only [List.getElem_toArray, List.getElem_cons_succ, List.getElem_cons_zero, Act.put, List.setIfInBounds_toArray, List.set_cons_zero, List.set_cons_succ]
            refine wpAnyH_ready (rs := [6]) (by kernel_rfl) (by simp) ?_
            refine AllReadyH.cons (o := _) rfl (fun K hK => ?_) AllReadyH.nil
            go_simp
            (go_at_call 32; refine (evsame_any m m A4 AW c4 cW _ ?_ ?_ ?_ ?_).mono ?_; exact E4.out; exact N4.out.2.1; omega; omega; rintro e w5 ⟨rfl, hb5⟩; rw [decide_eq_true rfl]; have N5 := Lib.hid (N4.out.below hb5); clear hb5)
            clear hHeld
            refine hK.out _ _ ?_ (fun hHeld => ?_)
            · (try dsimp only); (first | go_keep | (exact HG0.out) | (exact HGB.out _ N9.out.1) | (exact HGB.out _ N8.out.1) | (exact HGB.out _ N7.out.1) | (exact HGB.out _ N6.out.1) | (exact HGB.out _ N5.out.1) | (exact HGB.out _ N4.out.1))
            clear hK K
            try simp only [List.getElem_toArray, List.getElem_cons_succ, List.getElem_cons_zero, Act.put, List.setIfInBounds_toArray, List.set_cons_zero, List.set_cons_succ]
            refine wpAnyH_take (i := 7) (oi := _) (v := ?_) rfl (by kernel_rfl) (by kernel_rfl) (by kernel_rfl) (fun _ _ _ h => h) (Or.inl ⟨by rfl, ?_⟩) (by assumption) ?_
            rotate_left
            · (intro w hSw; (try dsimp only at hSw); go_simp; try with_reducible rfl)
            try simp only [List.getElem_toArray, List.getElem_cons_succ, List.getElem_cons_zero, Act.put, List.setIfInBounds_toArray, List.set_cons_zero, List.set_cons_succ]
            refine wpAnyH_take (i := 8) (oi := _) (v := ?_) rfl (by kernel_rfl) (by kernel_rfl) (by kernel_rfl) (fun _ _ _ h => h) (Or.inl ⟨by rfl, ?_⟩) (by assumption) ?_
            rotate_left
            · (intro w hSw; (try dsimp only at hSw); go_simp; try with_reducible rfl)
            try simp only [List.getElem_toArray, List.getElem_cons_succ, List.getElem_cons_zero, Act.put, List.setIfInBounds_toArray, List.set_cons_zero, List.set_cons_succ]
            refine wpAnyH_take (i := 9) (oi := _) (v := ?_) rfl (by kernel_rfl) (by kernel_rfl) (by kernel_rfl) (fun _ _ _ h => h) (Or.inl ⟨by rfl, ?_⟩) (by assumption) ?_
            rotate_left
            · (intro w hSw; (try dsimp only at hSw); go_simp; try with_reducible rfl)
            try simp only [List.getElem_toArray, List.getElem_cons_succ, List.getElem_cons_zero, Act.put, List.setIfInBounds_toArray, List.set_cons_zero, List.set_cons_succ]
            refine wpAnyH_take (i := 10) (oi := _) (v := ?_) rfl (by kernel_rfl) (by kernel_rfl) (by kernel_rfl) (fun _ _ _ h => h) (Or.inl ⟨by rfl, ?_⟩) (by assumption) ?_
            rotate_left
            · (intro w hSw; (try dsimp only at hSw); go_simp; try with_reducible rfl)
            try simp only [List.getElem_toArray, List.getElem_cons_succ, List.getElem_cons_zero, Act.put, List.setIfInBounds_toArray, List.set_cons_zero, List.set_cons_succ]
            refine wpAnyH_take (i := 11) (oi := _) (v := ?_) rfl (by kernel_rfl) (by kernel_rfl) (by kernel_rfl) (fun _ _ _ h => h) (Or.inl ⟨by rfl, ?_⟩) (by assumption) ?_
            rotate_left
            · (intro w hSw; (try dsimp only at hSw); go_simp; try with_reducible rfl)
            try simp only [List.getElem_toArray, List.getElem_cons_succ, List.getElem_cons_zero, Act.put, List.setIfInBounds_toArray, List.set_cons_zero, List.set_cons_succ]
            refine wpAnyH_take (i := 13) (oi := _) (v := ?_) rfl (by kernel_rfl) (by kernel_rfl) (by kernel_rfl) (fun _ _ _ h => h) (Or.inl ⟨by rfl, ?_⟩) (by assumption) ?_
            rotate_left
            · (intro w hSw; (try dsimp only at hSw); go_simp; try with_reducible rfl)
            try simp only [List.getElem_toArray, List.getElem_cons_succ, List.getElem_cons_zero, Act.put, List.setIfInBounds_toArray, List.set_cons_zero, List.set_cons_succ]
            refine wpAnyH_ready (rs := [12]) (by kernel_rfl) (by simp) ?_
            refine AllReadyH.cons (o := _) rfl (fun K hK => ?_) AllReadyH.nil
            go_simp
            (go_at_call 35; refine (levents_any s _ w.heap.size g vL vS m ?_ ?_).mono ?_; exact N5.out.1.log; omega; rintro e w6 ⟨hr6, hb6⟩; rw [HOO.out] at hr6; obtain ⟨A6, c6, rfl, he6, _, _⟩ := hr6; have N6 := Lib.hid (N5.out.below hb6); have E6 := Lib.hid he6; clear hb6 he6)
            clear hHeld
            refine hK.out _ _ ?_ (fun hHeld => ?_)
            · (try dsimp only); (first | go_keep | (exact HG0.out) | (exact HGB.out _ N9.out.1) | (exact HGB.out _ N8.out.1) | (exact HGB.out _ N7.out.1) | (exact HGB.out _ N6.out.1) | (exact HGB.out _ N5.out.1) | (exact HGB.out _ N4.out.1))
            clear hK K
            try simp only [List.getElem_toArray, List.getElem_cons_succ, List.getElem_cons_zero, Act.put, List.setIfInBounds_toArray, List.set_cons_zero, List.set_cons_succ]
            refine wpAnyH_ready (rs := [14]) (by kernel_rfl) (by simp) ?_
            refine AllReadyH.cons (o := _) rfl (fun K hK => ?_) AllReadyH.nil
            go_simp
            (go_at_call 32; refine (evsame_any O O A6 AO c6 cO _ ?_ ?_ ?_ ?_).mono ?_; exact E6.out; exact N6.out.2.2.1; omega; omega; rintro e w7 ⟨rfl, hb7⟩; rw [decide_eq_true rfl]; have N7 := Lib.hid (N6.out.below hb7); clear hb7)
            clear hHeld
            refine hK.out _ _ ?_ (fun hHeld => ?_)
            · (try dsimp only); (first | go_keep | (exact HG0.out) | (exact HGB.out _ N9.out.1) | (exact HGB.out _ N8.out.1) | (exact HGB.out _ N7.out.1) | (exact HGB.out _ N6.out.1) | (exact HGB.out _ N5.out.1) | (exact HGB.out _ N4.out.1))
            clear hK K
            try simp only [List.getElem_toArray, List.getElem_cons_succ, List.getElem_cons_zero, Act.put, List.setIfInBounds_toArray, List.set_cons_zero, List.set_cons_succ]
            refine wpAnyH_take (i := 15) (oi := _) (v := ?_) rfl (by kernel_rfl) (by kernel_rfl) (by kernel_rfl) (fun _ _ _ h => h) (Or.inl ⟨by rfl, ?_⟩) (by assumption) ?_
            rotate_left
            · (intro w hSw; (try dsimp only at hSw); go_simp; try with_reducible rfl)
            try simp only [List.getElem_toArray, List.getElem_cons_succ, List.getElem_cons_zero, Act.put, List.setIfInBounds_toArray, List.set_cons_zero, List.set_cons_succ]
            refine wpAnyH_take (i := 16) (oi := _) (v := ?_) rfl (by kernel_rfl) (by kernel_rfl) (by kernel_rfl) (fun _ _ _ h => h) (Or.inl ⟨by rfl, ?_⟩) (by assumption) ?_
            rotate_left
            · (intro w hSw; (try dsimp only at hSw); go_simp; try with_reducible rfl)
            try simp only [List.getElem_toArray, List.getElem_cons_succ, List.getElem_cons_zero, Act.put, List.setIfInBounds_toArray, List.set_cons_zero, List.set_cons_succ]
            refine wpAnyH_take (i := 17) (oi := _) (v := ?_) rfl (by kernel_rfl) (by kernel_rfl) (by kernel_rfl) (fun _ _ _ h => h) (Or.inl ⟨by rfl, ?_⟩) (by assumption) ?_
            rotate_left
            · (intro w hSw; (try dsimp only at hSw); go_simp; try with_reducible rfl)
            try simp only [List.getElem_toArray, List.getElem_cons_succ, List.getElem_cons_zero, Act.put, List.setIfInBounds_toArray, List.set_cons_zero, List.set_cons_succ]
            refine wpAnyH_take (i := 18) (oi := _) (v := ?_) rfl (by kernel_rfl) (by kernel_rfl) (by kernel_rfl) (fun _ _ _ h => h) (Or.inl ⟨by rfl, ?_⟩) (by assumption) ?_
            rotate_left
            · (intro w hSw; (try dsimp only at hSw); go_simp; try with_reducible rfl)
            try simp only [List.getElem_toArray, List.getElem_cons_succ, List.getElem_cons_zero, Act.put, List.setIfInBounds_toArray, List.set_cons_zero, List.set_cons_succ]
            refine wpAnyH_take (i := 20) (oi := _) (v := ?_) rfl (by kernel_rfl) (by kernel_rfl) (by kernel_rfl) (fun _ _ _ h => h) (Or.inl ⟨by rfl, ?_⟩) (by assumption) ?_
            rotate_left
            · (intro w hSw; (try dsimp only at hSw); go_simp; try with_reducible rfl)
            try simp only [List.getElem_toArray, List.getElem_cons_succ, List.getElem_cons_zero, Act.put, List.setIfInBounds_toArray, List.set_cons_zero, List.set_cons_succ]
            refine wpAnyH_take (i := 21) (oi := _) (v := ?_) rfl (by kernel_rfl) (by kernel_rfl) (by kernel_rfl) (fun _ _ _ h => h) (Or.inl ⟨by rfl, ?_⟩) (by assumption) ?_
            rotate_left
            · (intro w hSw; (try dsimp only at hSw); go_simp; try with_reducible rfl)
            try simp only [List.getElem_toArray, List.getElem_cons_succ, List.getElem_cons_zero, Act.put, List.setIfInBounds_toArray, List.set_cons_zero, List.set_cons_succ]
            refine wpAnyH_ready (rs := [19]) (by kernel_rfl) (by simp) ?_
            refine AllReadyH.cons (o := _) rfl (fun K hK => ?_) AllReadyH.nil
            go_simp
            (go_at_call 28; refine (llen_any _ w.heap.size g vL vS m ?_).mono ?_; exact N7.out.1.log; rintro e wsame ⟨rfl, rfl⟩)
            clear hHeld
            refine hK.out _ _ ?_ (fun hHeld => ?_)
            · (try dsimp only); (first | go_keep | (exact HG0.out) | (exact HGB.out _ N9.out.1) | (exact HGB.out _ N8.out.1) | (exact HGB.out _ N7.out.1) | (exact HGB.out _ N6.out.1) | (exact HGB.out _ N5.out.1) | (exact HGB.out _ N4.out.1))
            clear hK K
            try simp only [List.getElem_toArray, List.getElem_cons_succ, List.getElem_cons_zero, Act.put, List.setIfInBounds_toArray, List.set_cons_zero, List.set_cons_succ]
            refine wpAnyH_take (i := 22) (oi := _) (v := ?_) rfl (by kernel_rfl) (by kernel_rfl) (by kernel_rfl) (fun _ _ _ h => h) (Or.inl ⟨by rfl, ?_⟩) (by assumption) ?_
            rotate_left
            · (intro w hSw; (try dsimp only at hSw); go_simp; try with_reducible rfl)
            try simp only [List.getElem_toArray, List.getElem_cons_succ, List.getElem_cons_zero, Act.put, List.setIfInBounds_toArray, List.set_cons_zero, List.set_cons_succ]
            refine wpAnyH_take (i := 23) (oi := _) (v := ?_) rfl (by kernel_rfl) (by kernel_rfl) (by kernel_rfl) (fun _ _ _ h => h) (Or.inl ⟨by rfl, ?_⟩) (by assumption) ?_
            rotate_left
            · (intro w hSw; (try dsimp only at hSw); go_simp; try with_reducible rfl)
            try simp only [List.getElem_toArray, List.getElem_cons_succ, List.getElem_cons_zero, Act.put, List.setIfInBounds_toArray, List.set_cons_zero, List.set_cons_succ]
            refine wpAnyH_take (i := 24) (oi := _) (v := ?_) rfl (by kernel_rfl) (by kernel_rfl) (by kernel_rfl) (fun _ _ _ h => h) (Or.inl ⟨by rfl, ?_⟩) (by assumption) ?_
            rotate_left
            · (intro w hSw; (try dsimp only at hSw); go_simp; try with_reducible rfl)
            try simp only [List.getElem_toArray, List.getElem_cons_succ, List.getElem_cons_zero, Act.put, List.setIfInBounds_toArray, List.set_cons_zero, List.set_cons_succ]
            refine wpAnyH_take (i := 25) (oi := _) (v := ?_) rfl (by kernel_rfl) (by kernel_rfl) (by kernel_rfl) (fun _ _ _ h => h) (Or.inl ⟨by rfl, ?_⟩) (by assumption) ?_
            rotate_left
            · (intro w hSw; (try dsimp only at hSw); go_simp; try with_reducible rfl)
            try simp only [List.getElem_toArray, List.getElem_cons_succ, List.getElem_cons_zero, Act.put, List.setIfInBounds_toArray, List.set_cons_zero, List.set_cons_succ]
            refine wpAnyH_take (i := 27) (oi := _) (v := ?_) rfl (by kernel_rfl) (by kernel_rfl) (by kernel_rfl) (fun _ _ _ h => h) (Or.inl ⟨by rfl, ?_⟩) (by assumption) ?_
            rotate_left
            · (intro w hSw; (try dsimp only at hSw); go_simp; try with_reducible rfl)
            try simp only [List.getElem_toArray, List.getElem_cons_succ, List.getElem_cons_zero, Act.put, List.setIfInBounds_toArray, List.set_cons_zero, List.set_cons_succ]
            refine wpAnyH_ready (rs := [26]) (by kernel_rfl) (by simp) ?_
            refine AllReadyH.cons (o := _) rfl (fun K hK => ?_) AllReadyH.nil
            go_simp
            (go_at_call 33; refine (lall_any _ w.heap.size g vL vS m ?_ ?_).mono ?_; exact N7.out.1.log; omega; rintro e w8 ⟨⟨A8, c8, rfl, he8, _, _⟩, hb8⟩; have N8 := Lib.hid (N7.out.below hb8); have E8 := Lib.hid he8; clear hb8 he8)
            clear hHeld
            refine hK.out _ _ ?_ (fun hHeld => ?_)
            · (try dsimp only); (first | go_keep | (exact HG0.out) | (exact HGB.out _ N9.out.1) | (exact HGB.out _ N8.out.1) | (exact HGB.out _ N7.out.1) | (exact HGB.out _ N6.out.1) | (exact HGB.out _ N5.out.1) | (exact HGB.out _ N4.out.1))
            clear hK K
            try simp only [List.getElem_toArray, List.getElem_cons_succ, List.getElem_cons_zero, Act.put, List.setIfInBounds_toArray, List.set_cons_zero, List.set_cons_succ]
            refine wpAnyH_ready (rs := [28]) (by kernel_rfl) (by simp) ?_
            refine AllReadyH.cons (o := _) rfl (fun K hK => ?_) AllReadyH.nil
            go_simp
            (go_at_call 20; refine (verify_any m A8 c8 [] AH cH _ ?_ ?_ ?_ ?_ ?_ ?_).mono ?_; exact hd.below N8.out.1.base; exact hp.below N8.out.1.base; exact E8.out; exact HMI.out; exact N8.out.2.2.2; omega; rintro e w9 ⟨rfl, hb9⟩; rw [HVS.out.2]; have N9 := Lib.hid (N8.out.below hb9); clear hb9)
            clear hHeld
            refine hK.out _ _ ?_ (fun hHeld => ?_)
            · (try dsimp only); (first | go_keep | (exact HG0.out) | (exact HGB.out _ N9.out.1) | (exact HGB.out _ N8.out.1) | (exact HGB.out _ N7.out.1) | (exact HGB.out _ N6.out.1) | (exact HGB.out _ N5.out.1) | (exact HGB.out _ N4.out.1))
            clear hK K
            try simp only [List.getElem_toArray, List.getElem_cons_succ, List.getElem_cons_zero, Act.put, List.setIfInBounds_toArray, List.set_cons_zero, List.set_cons_succ]
            refine wpAnyH_take (i := 29) (oi := _) (v := ?_) rfl (by kernel_rfl) (by kernel_rfl) (by kernel_rfl) (fun _ _ _ h => h) (Or.inl ⟨by rfl, ?_⟩) (by assumption) ?_
            rotate_left
            · (intro w hSw; (try dsimp only at hSw); go_simp; try with_reducible rfl)
            try simp only [List.getElem_toArray, List.getElem_cons_succ, List.getElem_cons_zero, Act.put, List.setIfInBounds_toArray, List.set_cons_zero, List.set_cons_succ]
            refine wpAnyH_take (i := 30) (oi := _) (v := ?_) rfl (by kernel_rfl) (by kernel_rfl) (by kernel_rfl) (fun _ _ _ h => h) (Or.inl ⟨by rfl, ?_⟩) (by assumption) ?_
            rotate_left
            · (intro w hSw; (try dsimp only at hSw); go_simp; try with_reducible rfl)
            try simp only [List.getElem_toArray, List.getElem_cons_succ, List.getElem_cons_zero, Act.put, List.setIfInBounds_toArray, List.set_cons_zero, List.set_cons_succ]
            refine wpAnyH_take (i := 31) (oi := _) (v := ?_) rfl (by kernel_rfl) (by kernel_rfl) (by kernel_rfl) (fun _ _ _ h => h) (Or.inl ⟨by rfl, ?_⟩) (by assumption) ?_
            rotate_left
            · (intro w hSw; (try dsimp only at hSw); go_simp; try with_reducible rfl)
            try simp only [List.getElem_toArray, List.getElem_cons_succ, List.getElem_cons_zero, Act.put, List.setIfInBounds_toArray, List.set_cons_zero, List.set_cons_succ]
            refine wpAnyH_take (i := 32) (oi := _) (v := ?_) rfl (by kernel_rfl) (by kernel_rfl) (by kernel_rfl) (fun _ _ _ h => h) (Or.inl ⟨by rfl, ?_⟩) (by assumption) ?_
            rotate_left
            · (intro w hSw; (try dsimp only at hSw); go_simp; try with_reducible rfl)
            try simp only [List.getElem_toArray, List.getElem_cons_succ, List.getElem_cons_zero, Act.put, List.setIfInBounds_toArray, List.set_cons_zero, List.set_cons_succ]
            refine wpAnyH_take (i := 33) (oi := _) (v := ?_) rfl (by kernel_rfl) (by kernel_rfl) (by kernel_rfl) (fun _ _ _ h => h) (Or.inl ⟨by rfl, ?_⟩) (by assumption) ?_
            rotate_left
            · (intro w hSw; (try dsimp only at hSw); go_simp; try with_reducible rfl)
            try simp only [List.getElem_toArray, List.getElem_cons_succ, List.getElem_cons_zero, Act.put, List.setIfInBounds_toArray, List.set_cons_zero, List.set_cons_succ]
            refine wpAnyH_take (i := 34) (oi := _) (v := ?_) rfl (by kernel_rfl) (by kernel_rfl) (by kernel_rfl) (fun _ _ _ h => h) (Or.inl ⟨by rfl, ?_⟩) (by assumption) ?_
            rotate_left
            · (intro w hSw; (try dsimp only at hSw); go_simp; try with_reducible rfl)
            try simp only [List.getElem_toArray, List.getElem_cons_succ, List.getElem_cons_zero, Act.put, List.setIfInBounds_toArray, List.set_cons_zero, List.set_cons_succ]
            refine wpAnyH_take (i := 35) (oi := _) (v := ?_) rfl (by kernel_rfl) (by kernel_rfl) (by kernel_rfl) (fun _ _ _ h => h) (Or.inl ⟨by rfl, ?_⟩) (by assumption) ?_
            rotate_left
            · (intro w hSw; (try dsimp only at hSw); go_simp; try with_reducible rfl)
            try simp only [List.getElem_toArray, List.getElem_cons_succ, List.getElem_cons_zero, Act.put, List.setIfInBounds_toArray, List.set_cons_zero, List.set_cons_succ]
            refine wpAnyH_take (i := 36) (oi := _) (v := undef) rfl (by kernel_rfl) (by kernel_rfl) (by kernel_rfl) (fun _ _ _ h => h) (Or.inr ⟨by rfl, rfl⟩) (by assumption) ?_
            try simp only [List.getElem_toArray, List.getElem_cons_succ, List.getElem_cons_zero, Act.put, List.setIfInBounds_toArray, List.set_cons_zero, List.set_cons_succ]
            refine wpAnyH_take (i := 38) (oi := _) (v := undef) rfl (by kernel_rfl) (by kernel_rfl) (by kernel_rfl) (fun _ _ _ h => h) (Or.inr ⟨by rfl, rfl⟩) (by assumption) ?_
            try simp only [List.getElem_toArray, List.getElem_cons_succ, List.getElem_cons_zero, Act.put, List.setIfInBounds_toArray, List.set_cons_zero, List.set_cons_succ]
            refine wpAnyH_take (i := 39) (oi := _) (v := undef) rfl (by kernel_rfl) (by kernel_rfl) (by kernel_rfl) (fun _ _ _ h => h) (Or.inr ⟨by rfl, rfl⟩) (by assumption) ?_
            try simp only [List.getElem_toArray, List.getElem_cons_succ, List.getElem_cons_zero, Act.put, List.setIfInBounds_toArray, List.set_cons_zero, List.set_cons_succ]
            refine wpAnyH_take (i := 40) (oi := _) (v := undef) rfl (by kernel_rfl) (by kernel_rfl) (by kernel_rfl) (fun _ _ _ h => h) (Or.inr ⟨by rfl, rfl⟩) (by assumption) ?_
            try simp only [List.getElem_toArray, List.getElem_cons_succ, List.getElem_cons_zero, Act.put, List.setIfInBounds_toArray, List.set_cons_zero, List.set_cons_succ]
            refine wpAnyH_take (i := 41) (oi := _) (v := undef) rfl (by kernel_rfl) (by kernel_rfl) (by kernel_rfl) (fun _ _ _ h => h) (Or.inr ⟨by rfl, rfl⟩) (by assumption) ?_
            try simp only [List.getElem_toArray, List.getElem_cons_succ, List.getElem_cons_zero, Act.put, List.setIfInBounds_toArray, List.set_cons_zero, List.set_cons_succ]
            refine wpAnyH_take (i := 42) (oi := _) (v := undef) rfl (by kernel_rfl) (by kernel_rfl) (by kernel_rfl) (fun _ _ _ h => h) (Or.inr ⟨by rfl, rfl⟩) (by assumption) ?_
            try simp only [List.getElem_toArray, List.getElem_cons_succ, List.getElem_cons_zero, Act.put, List.setIfInBounds_toArray, List.set_cons_zero, List.set_cons_succ]
            refine wpAnyH_take (i := 43) (oi := _) (v := undef) rfl (by kernel_rfl) (by kernel_rfl) (by kernel_rfl) (fun _ _ _ h => h) (Or.inr ⟨by rfl, rfl⟩) (by assumption) ?_
            try simp only [List.getElem_toArray, List.getElem_cons_succ, List.getElem_cons_zero, Act.put, List.setIfInBounds_toArray, List.set_cons_zero, List.set_cons_succ]
            refine wpAnyH_take (i := 37) (oi := _) (v := undef) rfl (by kernel_rfl) (by kernel_rfl) (by kernel_rfl) (fun _ _ _ h => h) (Or.inr ⟨by rfl, rfl⟩) (by assumption) ?_
            try simp only [List.getElem_toArray, List.getElem_cons_succ, List.getElem_cons_zero, Act.put, List.setIfInBounds_toArray, List.set_cons_zero, List.set_cons_succ]
            refine wpAnyH_take (i := 44) (oi := _) (v := undef) rfl (by kernel_rfl) (by kernel_rfl) (by kernel_rfl) (fun _ _ _ h => h) (Or.inr ⟨by rfl, rfl⟩) (by assumption) ?_
            try simp only [List.getElem_toArray, List.getElem_cons_succ, List.getElem_cons_zero, Act.put, List.setIfInBounds_toArray, List.set_cons_zero, List.set_cons_succ]
            refine wpAnyH_take (i := 45) (oi := _) (v := ?_) rfl (by kernel_rfl) (by kernel_rfl) (by kernel_rfl) (fun _ _ _ h => h) (Or.inl ⟨by rfl, ?_⟩) (by assumption) ?_
            rotate_left
            · (intro w hSw; (try dsimp only at hSw); go_simp; try with_reducible rfl)
            try simp only [List.getElem_toArray, List.getElem_cons_succ, List.getElem_cons_zero, Act.put, List.setIfInBounds_toArray, List.set_cons_zero, List.set_cons_succ]
            refine wpAnyH_take (i := 46) (oi := _) (v := ?_) rfl (by kernel_rfl) (by kernel_rfl) (by kernel_rfl) (fun _ _ _ h => h) (Or.inl ⟨by rfl, ?_⟩) (by assumption) ?_
            rotate_left
            · (intro w hSw; (try dsimp only at hSw); go_simp; try with_reducible rfl)
            try simp only [List.getElem_toArray, List.getElem_cons_succ, List.getElem_cons_zero, Act.put, List.setIfInBounds_toArray, List.set_cons_zero, List.set_cons_succ]
            refine wpAnyH_done (by kernel_rfl) ?_ _
            all_goals
              clear mln ppn
              go_wp2_with fail
              go_loopw [11] (fun i wr => ∃ k2 : Nat, k2 ≤ m.length ∧ i = .int .i64 k2 ∧ Hid (Bun w wr g vL vS m AW cW AO cO O AH [])) (fun i _ => m.length - (intOf i).toNat)
              case atStart => exact ⟨0, Nat.zero_le _, rfl, N9⟩
              case round =>
                obtain ⟨k2, hk2, rfl, HB⟩ := hrel
                clear N3 N4 N5 N6 N7 N8 N9 E4 E6 E8
                by_cases hlt2 : k2 < m.length
                · obtain ⟨b, o, rfl, c0, c1, c2, c3, c4, c5⟩ := HB.out.2.1 k2 hlt2
                  have hxi := HMI.out _ (List.getElem_mem hlt2)
                  have HPV := Lib.hid (prove_each m k2 hlt2)
                  obtain ⟨R, HR⟩ : ∃ R, Hid (rootS (m.map lineS) = R) := ⟨_, Lib.hid rfl⟩
                  obtain ⟨Q, HQ⟩ : ∃ Q, Hid (pathS (m.map lineS) k2 = Q) := ⟨_, Lib.hid rfl⟩
                  rw [HR.out, HQ.out] at HPV
                  obtain ⟨x, HXE⟩ : ∃ x, Hid (m[k2] = x) := ⟨_, Lib.hid rfl⟩
                  rw [HXE.out] at c0 c1 c2 c3 c4 c5 hxi HPV
                  obtain ⟨t, tn, ac, an, ob, r⟩ := x
                  have HX := Lib.hid hxi
                  have d0 : _ = some (Value.int .i64 t) := c0
                  have d1 : _ = some (Value.string tn) := c1
                  have d2 : _ = some (Value.string ac) := c2
                  have d3 : _ = some (Value.string an) := c3
                  have d4 : _ = some (Value.string ob) := c4
                  have d5 : _ = some (Value.int .i64 r) := c5
                  clear c0 c1 c2 c3 c4 c5 hxi
                  obtain ⟨S, HSS⟩ : ∃ S, Hid (lineS ⟨t, tn, ac, an, ob, r⟩ = S) := ⟨_, Lib.hid rfl⟩
                  obtain ⟨E, HEE⟩ : ∃ E, Hid (lineE ⟨t, tn, ac, an, ob, r⟩ = E) := ⟨_, Lib.hid rfl⟩
                  have HSZ : Hid (S.size ≤ 2000) := Lib.hid (by rw [← HSS.out]; exact lineS_size _)
                  have HPZ : Hid (∀ s ∈ Q, s.size ≤ 1000000) := Lib.hid (by rw [← HQ.out]; exact pathS_sizes _ _)
                  have HPL : Hid (Q.length ≤ 1000000) := Lib.hid (by rw [← HQ.out]; exact pathS_length _ _ (by simp; omega))
                  rw [HSS.out] at HPV
                  go_wp2_with fail
                  refine (line_any ⟨t, tn, ac, an, ob, r⟩ _ HX.out (hp.below HB.out.1.base)).mono ?_
                  rintro e w10 ⟨rfl, hb10⟩
                  rw [HSS.out, HEE.out]
                  have B10 := Lib.hid (HB.out.below hb10)
                  clear hb10 d0 d1 d2 d3 d4 d5
                  go_wp2_with fail
                  refine (lprove_any (k2 : Int) _ (hd.below B10.out.1.base) _ g vL vS m B10.out.1.log (by omega)).mono ?_
                  rintro e w11 ⟨hr11, hb11⟩
                  rw [HQ.out, HPV.out.1] at hr11
                  obtain ⟨A11, c11, rfl, hs11, _, hc11⟩ := hr11
                  have B11 := Lib.hid (B10.out.below hb11)
                  have S11 := Lib.hid hs11
                  clear hb11 hs11
                  go_wp2_with fail
                  refine (lroot_any _ (hd.below B11.out.1.base) _ g vL vS m B11.out.1.log (by omega)).mono ?_
                  rintro e w12 ⟨rfl, hb12⟩
                  rw [HR.out]
                  have B12 := Lib.hid (B11.out.below hb12)
                  have S12 := Lib.hid (S11.out.below hb12)
                  clear hb12
                  go_wp2_with fail
                  refine (proves_any R S (k2 : Int) (m.length : Int) Q A11 c11 _ (hd.below B12.out.1.base) S12.out hc11 HPL.out HPZ.out (by have := HSZ.out; omega) (by omega)).mono ?_
                  rintro e w13 ⟨rfl, hb13⟩
                  rw [HPV.out.2]
                  have B13 := Lib.hid (B12.out.below hb13)
                  clear hb13
                  go_wp2_with fail
                  go_roundw
                  case rel => exact ⟨k2 + 1, hlt2, by go_num, B13⟩
                  case measure => simp [intOf]; omega
                · have hke2 : k2 = m.length := by omega
                  go_wp2_with fail
                  refine (awake_any _ (hd.below HB.out.1.base) (hp.below HB.out.1.base) (hE.below HB.out.1.base)).mono ?_
                  rintro e wz ⟨rfl, hbz⟩
                  have BZ := Lib.hid (HB.out.below hbz)
                  clear hbz
                  go_wp2_with fail
                  go_ret
                  exact ⟨rfl, BZ.out.1.base⟩
  · have HL : Hid (lightB l = false) := Lib.hid (by simpa using hli)
    clear hli
    go_enter Tryz.func9, Tryz.ntmps9
    go_wp2_with fail
    refine (Calls.mono HLI.out ?_)
    rintro e wsame ⟨rfl, rfl⟩
    rw [HL.out]
    go_wp2_with fail
    refine (awake_any _ (hd.below B0.out) (hp.below B0.out) (hE.below B0.out)).mono ?_
    rintro e w1 ⟨rfl, hb1⟩
    have B_1 := Lib.hid (bthen B0.out hb1)
    clear hb1
    go_wp2_with fail
    go_ret
    exact ⟨rfl, B_1.out⟩

set_option maxRecDepth 100000 in
/-- What the walk gives, for every argument and every world that holds the listed variables. -/
theorem contract (H : Type) (enc : TypeId × Value → H) (W : World) (base : Nat) (args : Array Value) (ds gs : List (DataW H)) (before : List MemPlace)
    (hval : ∀ (j : Nat) t v, Tryz.f9.params[j]? = some t → args[j]? = some v → Value.okWide Tryz.prog W .any base t v)
    (hW : DataW.Whole enc Tryz.prog Tryz.f9.params.toList Rows.auditLogSpec.vars false W args.toList ds gs before) (hL : laidMetH Tryz.prog Rows.auditLogRow.laid W) :
    Calls Tryz.prog 9 args W fun e W' => ∃ v, e = .returned v ∧ Rows.auditLogSpec.post enc Tryz.prog Tryz.f9 false true false false W args v W' := by
  have hW' := hW
  obtain ⟨p, q, hA0, hV, rfl, hfz, hnd⟩ := hW
  obtain ⟨rfl, rfl⟩ := trodVars_none hV
  have hA1 : DataW.TrodAll enc Tryz.prog W 0 (fun _ => true) true Tryz.f9.params.toList args.toList ds (p ++ []) := by rw [List.append_nil]; exact hA0
  have hA : DataW.TrodAll enc Tryz.prog W 0 (fun _ => true) true Tryz.f9.params.toList args.toList ds p := hA0
  rw [Tryz.params9] at hA hval
  obtain ⟨v0, vs0, d0, ds0, p0, q0, hargs, rfl, rfl, h0, r0⟩ := trodAll_cons hA
  obtain ⟨v1, vs1, d1, ds1, p1, q1, rfl, rfl, rfl, h1, r1⟩ := trodAll_cons r0
  obtain ⟨rfl, rfl, rfl⟩ := trodAll_nil r1
  obtain rfl : args = #[v0, v1] := by cases args; simp_all
  obtain ⟨A0, l0, c0, rfl, hS0, _, hl0, hin0⟩ := open_evs Tryz.underlying26 Tryz.underlying24 (by kernel_rfl) ⟨rfl, rfl, rfl, rfl, rfl, rfl⟩ Tryz.underlying3 Tryz.underlying9 Tryz.underlying9 Tryz.underlying9 Tryz.underlying9 Tryz.underlying22 ⟨by kernel_rfl, by kernel_rfl, by kernel_rfl, by kernel_rfl, by kernel_rfl, by kernel_rfl⟩ (hval 0 26 v0 rfl rfl) h0
  obtain ⟨s1, rfl, rfl, rfl, hs1⟩ := open_string Tryz.underlying9 (hval 1 9 v1 rfl rfl) h1
  have hs1 : s1.size ≤ 9223372036854775807 := by unfold maxLen at hs1; exact hs1
  obtain ⟨hd, hp, hE⟩ := laid_tabs hL
  refine (walk l0 A0 c0 s1 W hd hp hE hS0 hin0 hl0).mono fun e W' ⟨he, hb⟩ => ?_
  subst he
  exact ⟨_, rfl, law_post laidOut (by kernel_rfl) (by kernel_rfl) Tryz.underlying4 hW' rfl rfl hA1 hb⟩

set_option maxRecDepth 100000 in
theorem reads (w : World) {H : Type} (enc : TypeId × Value → H) : ∃ places, DataW.whole enc Tryz.prog w Tryz.f9.params.toList Rows.auditLogSpec.vars false #[Value.slice none 0 0, .string ByteArray.empty].toList 8 = some ([.nil, .lit (.string [])], [], places) :=
  ⟨[], by kernel_rfl⟩
theorem args_ok (w : World) : Input.okWideB Tryz.prog w 9 ⟨#[], #[.slice none 0 0, .string ByteArray.empty], []⟩ = true := by kernel_rfl
set_option maxRecDepth 100000 in
theorem lifted (os : Os) (started : os.Started) (H : Type) (enc : TypeId × Value → H) (F : Stop.Interp) :
    ReturnsInHanded {} Tryz.checked os 9 .any ((OpenSpec.ofChange Rows.auditLogSpec).preRow enc Tryz.prog Tryz.f9 Rows.auditLogRow.domain false Rows.auditLogRow.laid) (((OpenSpec.ofChange Rows.auditLogSpec).at F).post enc Tryz.prog Tryz.f9 false true false false) := by
  obtain ⟨places, hx⟩ := reads _ enc
  refine returnsInHanded_of_row (C := Tryz.checked) (s := OpenSpec.ofChange Rows.auditLogSpec) own started (by kernel_rfl) Tryz.func9
    (witness_row_at (enc := enc) (C := Tryz.checked) false (World.laidAll Tryz.prog os laidList) #[.slice none 0 0, .string ByteArray.empty] (World.laidAll_os _ _ _) (w_hv os _) (w_hr os _) (args_ok _)
      (OpenSpec.preRow_of_cond 8 hx (by kernel_rfl) (fun k hk => by cases hk) (by kernel_rfl) (w_laid os _))) ?_
  intro W base args ds gs before hval hW _ _ _ hL _ _
  exact contract H enc W base args ds gs before hval hW hL

theorem said : Rows.AuditLogSaid :=
  OpenClaim.holds_of_cond 9 Tryz.f9 rfl rfl rfl rfl rfl rfl rfl ⟨rfl, rfl, rfl, rfl, rfl⟩ rfl rfl rfl rfl rfl (by kernel_rfl) Tryz.func9 (by kernel_rfl)
    (of_decide_eq_true (by kernel_rfl)) (by unfold Func.isWrapper; first | (rw [if_pos (by decide +kernel)]; kernel_rfl) | (rw [if_neg (by decide +kernel)]; exact ⟨rfl, rfl⟩))
    (fun os started H enc _ F => by rw [OpenClaim.pre_eq_preRow]; exact lifted os started H enc F)

theorem plain (f : FuncId) (fn : Func) (hf : Tryz.pinned.checked.prog.funcNamed Rows.auditLogRow.func = some f) (hfn : Tryz.pinned.checked.prog.funcs[f]? = some fn) :
    true = Tryz.pinned.checked.prog.looks [] ∧ ∀ (j : Nat) t, fn.params[j]? = some t → Tryz.pinned.checked.prog.wantsStandIn t = false := by
  obtain rfl : f = 9 := Option.some.inj ((show Tryz.prog.funcNamed Rows.auditLogRow.func = some 9 by kernel_rfl).symm.trans hf) |>.symm
  obtain rfl : fn = Tryz.f9 := (Option.some.inj (Tryz.func9.symm.trans hfn)).symm
  refine ⟨by kernel_rfl, fun j t ht => ?_⟩
  rw [Tryz.params9] at ht
  have hm : t ∈ [26, 9] := by simpa using Array.mem_of_getElem? ht
  have hall : ([26, 9].all fun u => !Tryz.prog.wantsStandIn u) = true := by kernel_rfl
  exact (show Tryz.prog.wantsStandIn t = false by simpa using List.all_eq_true.1 hall t hm)

theorem card : Rows.AuditLogCardSaid :=
  Claim7.holds_tied_plain_at .later [] _ _ _ _ said (fun _ h => by cases h) (by kernel_rfl) (fun _ h => by cases h) auditLog_row_tie rfl ⟨rfl, rfl⟩ (by kernel_rfl) rfl plain (by kernel_rfl)
end Go.Proofs.YthdpkfddmkijlaaGreatDoor.auditLog
