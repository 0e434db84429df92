/- Joined: AudHeads, DigTree, DigTreeR, DigRoot, DigPath, Same03, DigProves. -/
import Derived.Test.YthdpkfddmkijlaaGreatDoorSeg5
import Derived.Test.YthdpkfddmkijlaaGreatDoorSeg1
import Derived.Laws.OwnMore
import Derived.Deep.RegionHeld3
import Derived.Deep.AppendLies
import Derived.Deep.RegionLaw
import Derived.BigQuiet
import Derived.Deep.QuietTactic
/- audit.Heads, audit.Verify and their references. -/
namespace Go.Proofs.YthdpkfddmkijlaaGreatDoor
open Go.RowKit

theorem startS_size : startS.size = 16 := textS_size _
theorem start_any (w : World) (hd : DigOk w) : Calls Tryz.prog 58 #[] w fun e w' => e = .returned (.string startS) ∧ Below w.heap.size w w' := by
  go_enter Tryz.func58, Tryz.ntmps58
  go_wp2_with fail
  refine (text_any ⟨#[]⟩ _ hd (by decide)).mono ?_
  rintro e w1 ⟨rfl, hb1⟩
  go_wp2_with fail
  go_ret
  exact ⟨rfl, hb1⟩
/-- A round's event, boxed. -/
theorem own_of {w : World} {B : Nat} {v : Value} {k : Nat} {xs : List Value} (h : w.ownsRow B 9 1 v k xs) {ys : List Value} (e : xs = ys) : w.ownsRow B 9 1 v k ys := e ▸ h
set_option maxHeartbeats 8000000 in
set_option maxRecDepth 100000 in
theorem heads_any (l : List Ev) (A : Option Addr) (c : Nat) (w : World) (hd : DigOk w) (hp : PowOk w) (hS : EvsAt w A l) (hI : ∀ x ∈ l, EvIn x) (hl : l.length ≤ 1000000) :
    Calls Tryz.prog 17 #[.slice A l.length c] w fun e w' => RetStrs2 w.heap.size w' e (headsS l) (firstE l) ∧ Below w.heap.size w w' := by
  obtain ⟨i0, hi, hz0, hz1, hz2⟩ := info_parts Tryz.info_s
  have HS := Lib.hid hS
  have HI := Lib.hid hI
  clear hS hI
  go_enter Tryz.func17, Tryz.ntmps17
  go_wp2_with fail
  refine (start_any _ hd).mono ?_
  rintro e w0 ⟨rfl, hb0⟩
  go_wp2_with fail
  go_loopw [4, 5, 13] (fun v h i wr => ∃ k : Nat, k ≤ l.length ∧ i = .int .i64 k ∧ h = .string (headF startS (l.take k)) ∧ wr.ownsRow w.heap.size 9 1 v k (strVs (headsF startS (l.take k))) ∧ Hid (firstE (l.take k) = 0) ∧ Below w.heap.size w wr) (fun _ _ i _ => l.length - (intOf i).toNat)
  case atStart => exact ⟨0, Nat.zero_le _, rfl, rfl, World.ownsRow_nil _ _ _ _, Lib.hid rfl, hb0⟩
  case round =>
    obtain ⟨k, hk, rfl, rfl, hown, HF, hbr⟩ := hrel
    have HHZ := Lib.hid (headF_size (l.take k))
    by_cases hlt : k < l.length
    ·
      obtain ⟨b, o, rfl, c0, c1, c2, c3, c4, c5⟩ := (HS.out.below hbr) k hlt
      have hin := HI.out _ (List.getElem_mem hlt)
      have HTK := Lib.hid (headF_take hlt startS)
      have HTS := Lib.hid (headsF_take hlt startS)
      have HSN := Lib.hid (fun h : lineE l[k] = 0 => firstE_snoc hlt HF.out h)
      have HBD := Lib.hid (fun h : lineE l[k] ≠ 0 => firstE_take hlt HF.out h)
      have hls := lineS_size l[k]
      generalize l[k] = x at *
      obtain ⟨t, tn, ac, an, ob, r⟩ := x
      have d0 : _ = some (Value.int .i64 t) := c0
      have d1 : _ = some (Value.string tn) := c1
      have d2 : _ = some (Value.string ac) := c2
      have d3 : _ = some (Value.string an) := c3
      have d4 : _ = some (Value.string ob) := c4
      have d5 : _ = some (Value.int .i64 r) := c5
      clear c0 c1 c2 c3 c4 c5
      have HIN := Lib.hid hin
      clear hin
      obtain ⟨S, HSS⟩ : ∃ S, Hid (lineS ⟨t, tn, ac, an, ob, r⟩ = S) := ⟨_, Lib.hid rfl⟩
      obtain ⟨E, HEE⟩ : ∃ E, Hid (lineE ⟨t, tn, ac, an, ob, r⟩ = E) := ⟨_, Lib.hid rfl⟩
      obtain ⟨H, HH⟩ : ∃ H, Hid (headF startS (l.take k) = H) := ⟨_, Lib.hid rfl⟩
      have B1 := Lib.hid (hbr.alloc hbr.size (.cells #[.int .i64 t, .string tn, .string ac, .string an, .string ob, .int .i64 r] 24))
      have O1 := Lib.hid (hown.alloc (.cells #[.int .i64 t, .string tn, .string ac, .string an, .string ob, .int .i64 r] 24))
      have HSZ : Hid (S.size ≤ 2000) := Lib.hid (by rw [← HSS.out]; exact hls)
      rw [HH.out] at HHZ HTK HTS
      rw [HH.out]
      clear hls hown
      go_wp2_with fail
      refine (line_any ⟨t, tn, ac, an, ob, r⟩ _ HIN.out (hp.below B1.out)).mono ?_
      rintro e w2 ⟨rfl, hb2⟩
      rw [HSS.out, HEE.out]
      have B2 := Lib.hid (bthen B1.out hb2)
      have O2 := Lib.hid (own_below O1.out hb2)
      clear hb2 d0 d1 d2 d3 d4 d5
      by_cases hE : E = 0
      · have HSN2 := Lib.hid (HSN.out (HEE.out.trans hE))
        have HZE := Lib.hid hE
        have t0 : (E != 0) = false := by rw [hE]; rfl
        clear hE
        go_wp2_with fail
        refine (chain_any H S _ (hd.below B2.out) (by have := HHZ.out; omega) (by have := HSZ.out; omega)).mono ?_
        rintro e w3 ⟨rfl, hb3⟩
        have B3 := Lib.hid (bthen B2.out hb3)
        have O3 := Lib.hid (own_below O2.out hb3)
        clear hb3
        go_wp2_with (at_builtin; refine wpList_append_own _ rfl _ _ 33 rfl w.heap.size 9 i0 (.string ByteArray.empty) 1 16 Tryz.underlying33 hi hz0 hz1 hz2 rfl (by decide) _ _ _ rfl (O3.out.alloc _) ⟨w3.heap.size, 0, none⟩ 1 1 [strV (chainS H S)] rfl rfl (cell_one_new _ _ _) (by intro u hu; simp at hu; subst hu; rfl) (by unfold maxLen; omega) (by omega) (by have := B3.out.size; simp; omega) ?_; intro v' w4 hown4 hg4 _)
        have HB4 : Hid (Below w.heap.size w w4) := Lib.hid ((B3.out.alloc B3.out.size _).grown hg4 (by have := B3.out.size; simp; omega) (fun q hq => (O3.out.lt q hq).1))
        have HO4 : Hid (w4.ownsRow w.heap.size 9 1 v' (k + 1) (strVs (headsF startS (l.take (k + 1))))) := Lib.hid (own_of hown4 (by rw [HTS.out, strVs_snoc, HSS.out]))
        have HHE : Hid (chainS H S = headF startS (l.take (k + 1))) := Lib.hid (by rw [HTK.out, HSS.out])
        clear hown4 hg4
        go_wp2_with fail
        go_roundw
        case rel => exact ⟨k + 1, hlt, by go_num, congrArg Value.string HHE.out, HO4.out, HSN2, HB4.out⟩
        case measure => simp [intOf]; omega
      · have HQ := Lib.hid (HBD.out (by rw [HEE.out]; exact hE))
        have HNE := Lib.hid hE
        have t0 : (E != 0) = true := by rw [bne_iff_ne]; exact hE
        clear hE
        go_wp2_with fail
        go_ret2
        have e1 : firstE l = E := HQ.out.trans HEE.out
        have e2 : headsS l = [] := by rw [headsS, if_neg (by rw [e1]; exact HNE.out)]
        rw [e1, e2]
        exact ⟨⟨none, 0, rfl, Strs.nil_ _ _, (fun p hp => by cases hp), Nat.le_refl _⟩, B2.out⟩
    · have hkl : k = l.length := by omega
      have e0 : l.take k = l := List.take_of_length_le (by omega)
      have HF2 : Hid (firstE l = 0) := Lib.hid (by rw [← e0]; exact HF.out)
      have HO2 : Hid (wr.ownsRow w.heap.size 9 1 _ k (strVs (headsF startS l))) := Lib.hid (by rw [e0] at hown; exact hown)
      have HLK := Lib.hid hkl
      clear hown e0 hkl
      go_wp2_with fail
      go_ret2
      have e2 : headsS l = headsF startS l := by rw [headsS, if_pos HF2.out]
      rw [HF2.out, e2]
      exact ⟨RetStrs2.own HO2.out (by rw [heads_len]; exact HLK.out.symm) (strVs_at _), hbr⟩
set_option maxHeartbeats 8000000 in
set_option maxRecDepth 100000 in
theorem rheads_any (l : List Ev) (A : Option Addr) (c : Nat) (w : World) (hS : EvsAt w A l) (hI : ∀ x ∈ l, EvIn x) (hl : l.length ≤ 1000000) :
    Calls Tryz.prog 18 #[.slice A l.length c] w fun e w' => RetStrs2 w.heap.size w' e (headsS l) (firstE l) ∧ Below w.heap.size w w' := by
  obtain ⟨i0, hi, hz0, hz1, hz2⟩ := info_parts Tryz.info_s
  have HS := Lib.hid hS
  have HI := Lib.hid hI
  clear hS hI
  go_enter Tryz.func18, Tryz.ntmps18
  go_wp2_with fail
  refine (rtext_any ⟨#[]⟩ _ (by decide)).mono ?_
  rintro e w0 ⟨rfl, rfl⟩
  have hb0 := Below.refl w.heap.size w
  rw [show textS ⟨#[]⟩ = startS from rfl]
  go_wp2_with fail
  go_loopw [4, 5, 6] (fun v h i wr => ∃ k : Nat, k ≤ l.length ∧ i = .int .i64 k ∧ h = .string (headF startS (l.take k)) ∧ wr.ownsRow w.heap.size 9 1 v k (strVs (headsF startS (l.take k))) ∧ Hid (firstE (l.take k) = 0) ∧ Below w.heap.size w wr) (fun _ _ i _ => l.length - (intOf i).toNat)
  case atStart => exact ⟨0, Nat.zero_le _, rfl, rfl, World.ownsRow_nil _ _ _ _, Lib.hid rfl, hb0⟩
  case round =>
    obtain ⟨k, hk, rfl, rfl, hown, HF, hbr⟩ := hrel
    have HHZ := Lib.hid (headF_size (l.take k))
    by_cases hlt : k < l.length
    ·
      obtain ⟨b, o, rfl, c0, c1, c2, c3, c4, c5⟩ := (HS.out.below hbr) k hlt
      have hin := HI.out _ (List.getElem_mem hlt)
      have HTK := Lib.hid (headF_take hlt startS)
      have HTS := Lib.hid (headsF_take hlt startS)
      have HSN := Lib.hid (fun h : lineE l[k] = 0 => firstE_snoc hlt HF.out h)
      have HBD := Lib.hid (fun h : lineE l[k] ≠ 0 => firstE_take hlt HF.out h)
      have hls := lineS_size l[k]
      generalize l[k] = x at *
      obtain ⟨t, tn, ac, an, ob, r⟩ := x
      have d0 : _ = some (Value.int .i64 t) := c0
      have d1 : _ = some (Value.string tn) := c1
      have d2 : _ = some (Value.string ac) := c2
      have d3 : _ = some (Value.string an) := c3
      have d4 : _ = some (Value.string ob) := c4
      have d5 : _ = some (Value.int .i64 r) := c5
      clear c0 c1 c2 c3 c4 c5
      have HIN := Lib.hid hin
      clear hin
      obtain ⟨S, HSS⟩ : ∃ S, Hid (lineS ⟨t, tn, ac, an, ob, r⟩ = S) := ⟨_, Lib.hid rfl⟩
      obtain ⟨E, HEE⟩ : ∃ E, Hid (lineE ⟨t, tn, ac, an, ob, r⟩ = E) := ⟨_, Lib.hid rfl⟩
      obtain ⟨H, HH⟩ : ∃ H, Hid (headF startS (l.take k) = H) := ⟨_, Lib.hid rfl⟩
      have B1 : Hid (Below w.heap.size w wr) := Lib.hid hbr
      have O1 := Lib.hid hown
      have HSZ : Hid (S.size ≤ 2000) := Lib.hid (by rw [← HSS.out]; exact hls)
      rw [HH.out] at HHZ HTK HTS
      rw [HH.out]
      clear hls hown
      go_wp2_with fail
      refine (rline_any ⟨t, tn, ac, an, ob, r⟩ _ HIN.out).mono ?_
      rintro e w2 ⟨rfl, hb2⟩
      rw [HSS.out, HEE.out]
      have B2 := Lib.hid (bthen B1.out hb2)
      have O2 := Lib.hid (own_below O1.out hb2)
      clear hb2 d0 d1 d2 d3 d4 d5
      by_cases hE : E = 0
      · have HSN2 := Lib.hid (HSN.out (HEE.out.trans hE))
        have HZE := Lib.hid hE
        have t0 : (E != 0) = false := by rw [hE]; rfl
        clear hE
        go_wp2_with fail
        refine (rchain_any H S _ (by have := HHZ.out; omega) (by have := HSZ.out; omega)).mono ?_
        rintro e w3 ⟨rfl, rfl⟩
        have B3 := B2
        have O3 := O2
        go_wp2_with (at_builtin; refine wpList_append_own _ rfl _ _ 33 rfl w.heap.size 9 i0 (.string ByteArray.empty) 1 16 Tryz.underlying33 hi hz0 hz1 hz2 rfl (by decide) _ _ _ rfl (O3.out.alloc _) ⟨w2.heap.size, 0, none⟩ 1 1 [strV (chainS H S)] rfl rfl (cell_one_new _ _ _) (by intro u hu; simp at hu; subst hu; rfl) (by unfold maxLen; omega) (by omega) (by have := B3.out.size; simp; omega) ?_; intro v' w4 hown4 hg4 _)
        have HB4 : Hid (Below w.heap.size w w4) := Lib.hid ((B3.out.alloc B3.out.size _).grown hg4 (by have := B3.out.size; simp; omega) (fun q hq => (O3.out.lt q hq).1))
        have HO4 : Hid (w4.ownsRow w.heap.size 9 1 v' (k + 1) (strVs (headsF startS (l.take (k + 1))))) := Lib.hid (own_of hown4 (by rw [HTS.out, strVs_snoc, HSS.out]))
        have HHE : Hid (chainS H S = headF startS (l.take (k + 1))) := Lib.hid (by rw [HTK.out, HSS.out])
        clear hown4 hg4
        go_wp2_with fail
        go_roundw
        case rel => exact ⟨k + 1, hlt, by go_num, congrArg Value.string HHE.out, HO4.out, HSN2, HB4.out⟩
        case measure => simp [intOf]; omega
      · have HQ := Lib.hid (HBD.out (by rw [HEE.out]; exact hE))
        have HNE := Lib.hid hE
        have t0 : (E != 0) = true := by rw [bne_iff_ne]; exact hE
        clear hE
        go_wp2_with fail
        go_ret2
        have e1 : firstE l = E := HQ.out.trans HEE.out
        have e2 : headsS l = [] := by rw [headsS, if_neg (by rw [e1]; exact HNE.out)]
        rw [e1, e2]
        exact ⟨⟨none, 0, rfl, Strs.nil_ _ _, (fun p hp => by cases hp), Nat.le_refl _⟩, B2.out⟩
    · have hkl : k = l.length := by omega
      have e0 : l.take k = l := List.take_of_length_le (by omega)
      have HF2 : Hid (firstE l = 0) := Lib.hid (by rw [← e0]; exact HF.out)
      have HO2 : Hid (wr.ownsRow w.heap.size 9 1 _ k (strVs (headsF startS l))) := Lib.hid (by rw [e0] at hown; exact hown)
      have HLK := Lib.hid hkl
      clear hown e0 hkl
      go_wp2_with fail
      go_ret2
      have e2 : headsS l = headsF startS l := by rw [headsS, if_pos HF2.out]
      rw [HF2.out, e2]
      exact ⟨RetStrs2.own HO2.out (by rw [heads_len]; exact HLK.out.symm) (strVs_at _), hbr⟩
set_option maxHeartbeats 8000000 in
set_option maxRecDepth 100000 in
theorem verify_any (l : List Ev) (A : Option Addr) (c : Nat) (hs : List ByteArray) (A2 : Option Addr) (c2 : Nat) (w : World) (hd : DigOk w) (hp : PowOk w) (hS : EvsAt w A l) (hI : ∀ x ∈ l, EvIn x) (hH : Strs w A2 hs) (hl : l.length ≤ 1000000) :
    Calls Tryz.prog 20 #[.slice A l.length c, .slice A2 hs.length c2] w fun e w' => e = .returned (.int .i64 (verS l hs)) ∧ Below w.heap.size w w' := by
  have HS := Lib.hid hS
  have HI := Lib.hid hI
  have HX := Lib.hid hH
  clear hS hI hH
  go_enter Tryz.func20, Tryz.ntmps20
  go_wp2_with fail
  refine (start_any _ hd).mono ?_
  rintro e w0 ⟨rfl, hb0⟩
  go_wp2_with fail
  go_loopw [5, 13] (fun h i wr => ∃ k : Nat, k ≤ l.length ∧ i = .int .i64 k ∧ h = .string (headF startS (l.take k)) ∧ Hid (Ver l hs k (headF startS (l.take k))) ∧ Below w.heap.size w wr) (fun _ i _ => l.length - (intOf i).toNat)
  case atStart => exact ⟨0, Nat.zero_le _, rfl, rfl, Lib.hid (Ver.start l hs), hb0⟩
  case round =>
    obtain ⟨k, hk, rfl, rfl, HV, hbr⟩ := hrel
    have HHZ := Lib.hid (headF_size (l.take k))
    by_cases hlt : k < l.length
    · obtain ⟨b, o, rfl, c0, c1, c2, c3, c4, c5⟩ := (HS.out.below hbr) k hlt
      have hin := HI.out _ (List.getElem_mem hlt)
      have HTK := Lib.hid (headF_take hlt startS)
      have hls := lineS_size l[k]
      have HSH := Lib.hid (fun h : hs.length ≤ k => HV.out.short hlt h)
      have HBD := Lib.hid (fun h : lineE l[k] ≠ 0 => HV.out.bad hlt h)
      have HOT := Lib.hid (fun (h : k < hs.length) (h2 : hs[k] ≠ chainS (headF startS (l.take k)) (lineS l[k])) => HV.out.other hlt h h2)
      have HNX := Lib.hid (fun (h : k < hs.length) (h1 : lineE l[k] = 0) (h2 : hs[k] = chainS (headF startS (l.take k)) (lineS l[k])) => HV.out.next hlt h h1 h2)
      generalize l[k] = x at *
      obtain ⟨t, tn, ac, an, ob, r⟩ := x
      have d0 : _ = some (Value.int .i64 t) := c0
      have d1 : _ = some (Value.string tn) := c1
      have d2 : _ = some (Value.string ac) := c2
      have d3 : _ = some (Value.string an) := c3
      have d4 : _ = some (Value.string ob) := c4
      have d5 : _ = some (Value.int .i64 r) := c5
      clear c0 c1 c2 c3 c4 c5
      have HIN := Lib.hid hin
      clear hin
      obtain ⟨S, HSS⟩ : ∃ S, Hid (lineS ⟨t, tn, ac, an, ob, r⟩ = S) := ⟨_, Lib.hid rfl⟩
      obtain ⟨E, HEE⟩ : ∃ E, Hid (lineE ⟨t, tn, ac, an, ob, r⟩ = E) := ⟨_, Lib.hid rfl⟩
      obtain ⟨H, HH⟩ : ∃ H, Hid (headF startS (l.take k) = H) := ⟨_, Lib.hid rfl⟩
      have B1 := Lib.hid (hbr.alloc hbr.size (.cells #[.int .i64 t, .string tn, .string ac, .string an, .string ob, .int .i64 r] 24))
      have HSZ : Hid (S.size ≤ 2000) := Lib.hid (by rw [← HSS.out]; exact hls)
      rw [HH.out] at HHZ HTK HOT HNX
      rw [HSS.out] at HOT HNX HTK
      rw [HEE.out] at HBD HNX
      rw [HH.out]
      clear hls
      go_wp2_with fail
      refine (line_any ⟨t, tn, ac, an, ob, r⟩ _ HIN.out (hp.below B1.out)).mono ?_
      rintro e w2 ⟨rfl, hb2⟩
      rw [HSS.out, HEE.out]
      have B2 := Lib.hid (bthen B1.out hb2)
      clear hb2 d0 d1 d2 d3 d4 d5
      go_wp2_with fail
      refine (chain_any H S _ (hd.below B2.out) (by have := HHZ.out; omega) (by have := HSZ.out; omega)).mono ?_
      rintro e w3 ⟨rfl, hb3⟩
      have B3 := Lib.hid (bthen B2.out hb3)
      clear hb3
      by_cases hE : E = 0
      · have HZE := Lib.hid hE
        have t0 : (E != 0) = false := by rw [hE]; rfl
        clear hE
        by_cases hk2 : k < hs.length
        · obtain ⟨bq, oq, hAq, hcq⟩ := (HX.out.below B3.out) k hk2
          subst hAq
          have HOT2 := Lib.hid (HOT.out hk2)
          have HNX2 := Lib.hid (HNX.out hk2 HZE.out)
          have i1 : (0 : Int) ≤ (k : Int) := by omega
          have i2 : (k : Int) < (hs.length : Int) := by omega
          have t1 : decide ((hs.length : Int) ≤ (k : Int)) = false := decide_eq_false (by omega)
          have t2 : decide (hs.length ≤ k) = false := decide_eq_false (by omega)
          generalize hs[k] = y at *
          obtain ⟨C, HC⟩ : ∃ C, Hid (chainS H S = C) := ⟨_, Lib.hid rfl⟩
          rw [HC.out] at HOT2 HNX2 HTK
          rw [HC.out]
          by_cases hy : y = C
          · have HNX3 := Lib.hid (HNX2.out hy)
            have t3 : (y.toList == C.toList) = true := by rw [hy]; simp
            have t4 : (y.toList != C.toList) = false := by rw [hy]; simp
            have t5 : (C.toList == y.toList) = true := by rw [hy]; simp
            have t6 : (C.toList != y.toList) = false := by rw [hy]; simp
            clear hy
            go_wp2_with fail
            go_roundw
            case rel => exact ⟨k + 1, hlt, by go_num, congrArg Value.string HTK.out.symm, Lib.hid (by rw [HTK.out]; exact HNX3.out), B3.out⟩
            case measure => simp [intOf]; omega
          · have HR := Lib.hid (HOT2.out hy)
            have t3 : (y.toList == C.toList) = false := str_ne hy
            have t4 : (y.toList != C.toList) = true := by rw [bne, t3]; rfl
            have t5 : (C.toList == y.toList) = false := str_ne (fun h => hy h.symm)
            have t6 : (C.toList != y.toList) = true := by rw [bne, t5]; rfl
            clear hy
            go_wp2_with fail
            go_ret
            exact ⟨ret_int HR.out.symm, B3.out⟩
        · have HR := Lib.hid (HSH.out (by omega))
          have t1 : decide ((hs.length : Int) ≤ (k : Int)) = true := decide_eq_true (by omega)
          have t2 : decide (hs.length ≤ k) = true := decide_eq_true (by omega)
          go_wp2_with fail
          go_ret
          exact ⟨ret_int HR.out.symm, B3.out⟩
      · have HR := Lib.hid (HBD.out hE)
        have t0 : (E != 0) = true := by rw [bne_iff_ne]; exact hE
        clear hE
        go_wp2_with fail
        go_ret
        exact ⟨ret_int HR.out.symm, B3.out⟩
    · have HR := Lib.hid (HV.out.end (by omega))
      by_cases hk2 : l.length < hs.length
      · have HR2 : Hid (verS l hs = (l.length : Int)) := Lib.hid (by rw [HR.out, if_pos hk2])
        go_wp2_with fail
        go_ret
        exact ⟨ret_int HR2.out.symm, hbr⟩
      · have HR2 : Hid (verS l hs = -1) := Lib.hid (by rw [HR.out, if_neg hk2])
        go_wp2_with fail
        go_ret
        exact ⟨ret_int HR2.out.symm, hbr⟩
set_option maxHeartbeats 8000000 in
set_option maxRecDepth 100000 in
theorem rverify_any (l : List Ev) (A : Option Addr) (c : Nat) (hs : List ByteArray) (A2 : Option Addr) (c2 : Nat) (w : World) (hS : EvsAt w A l) (hI : ∀ x ∈ l, EvIn x) (hH : Strs w A2 hs) (hl : l.length ≤ 1000000) :
    Calls Tryz.prog 21 #[.slice A l.length c, .slice A2 hs.length c2] w fun e w' => e = .returned (.int .i64 (verS l hs)) ∧ Below w.heap.size w w' := by
  have HS := Lib.hid hS
  have HI := Lib.hid hI
  have HX := Lib.hid hH
  clear hS hI hH
  go_enter Tryz.func21, Tryz.ntmps21
  go_wp2_with fail
  refine (rtext_any ⟨#[]⟩ _ (by decide)).mono ?_
  rintro e w0 ⟨rfl, rfl⟩
  have hb0 := Below.refl w.heap.size w
  rw [show textS ⟨#[]⟩ = startS from rfl]
  go_wp2_with fail
  go_loopw [5, 6] (fun h i wr => ∃ k : Nat, k ≤ l.length ∧ i = .int .i64 k ∧ h = .string (headF startS (l.take k)) ∧ Hid (Ver l hs k (headF startS (l.take k))) ∧ Below w.heap.size w wr) (fun _ i _ => l.length - (intOf i).toNat)
  case atStart => exact ⟨0, Nat.zero_le _, rfl, rfl, Lib.hid (Ver.start l hs), hb0⟩
  case round =>
    obtain ⟨k, hk, rfl, rfl, HV, hbr⟩ := hrel
    have HHZ := Lib.hid (headF_size (l.take k))
    by_cases hlt : k < l.length
    · obtain ⟨b, o, rfl, c0, c1, c2, c3, c4, c5⟩ := (HS.out.below hbr) k hlt
      have hin := HI.out _ (List.getElem_mem hlt)
      have HTK := Lib.hid (headF_take hlt startS)
      have hls := lineS_size l[k]
      have HSH := Lib.hid (fun h : hs.length ≤ k => HV.out.short hlt h)
      have HBD := Lib.hid (fun h : lineE l[k] ≠ 0 => HV.out.bad hlt h)
      have HOT := Lib.hid (fun (h : k < hs.length) (h2 : hs[k] ≠ chainS (headF startS (l.take k)) (lineS l[k])) => HV.out.other hlt h h2)
      have HNX := Lib.hid (fun (h : k < hs.length) (h1 : lineE l[k] = 0) (h2 : hs[k] = chainS (headF startS (l.take k)) (lineS l[k])) => HV.out.next hlt h h1 h2)
      generalize l[k] = x at *
      obtain ⟨t, tn, ac, an, ob, r⟩ := x
      have d0 : _ = some (Value.int .i64 t) := c0
      have d1 : _ = some (Value.string tn) := c1
      have d2 : _ = some (Value.string ac) := c2
      have d3 : _ = some (Value.string an) := c3
      have d4 : _ = some (Value.string ob) := c4
      have d5 : _ = some (Value.int .i64 r) := c5
      clear c0 c1 c2 c3 c4 c5
      have HIN := Lib.hid hin
      clear hin
      obtain ⟨S, HSS⟩ : ∃ S, Hid (lineS ⟨t, tn, ac, an, ob, r⟩ = S) := ⟨_, Lib.hid rfl⟩
      obtain ⟨E, HEE⟩ : ∃ E, Hid (lineE ⟨t, tn, ac, an, ob, r⟩ = E) := ⟨_, Lib.hid rfl⟩
      obtain ⟨H, HH⟩ : ∃ H, Hid (headF startS (l.take k) = H) := ⟨_, Lib.hid rfl⟩
      have B1 : Hid (Below w.heap.size w wr) := Lib.hid hbr
      have HSZ : Hid (S.size ≤ 2000) := Lib.hid (by rw [← HSS.out]; exact hls)
      rw [HH.out] at HHZ HTK HOT HNX
      rw [HSS.out] at HOT HNX HTK
      rw [HEE.out] at HBD HNX
      rw [HH.out]
      clear hls
      go_wp2_with fail
      refine (rline_any ⟨t, tn, ac, an, ob, r⟩ _ HIN.out).mono ?_
      rintro e w2 ⟨rfl, hb2⟩
      rw [HSS.out, HEE.out]
      have B2 := Lib.hid (bthen B1.out hb2)
      clear hb2 d0 d1 d2 d3 d4 d5
      by_cases hE : E = 0
      · have HZE := Lib.hid hE
        have t0 : (E != 0) = false := by rw [hE]; rfl
        clear hE
        by_cases hk2 : k < hs.length
        · obtain ⟨bq, oq, hAq, hcq⟩ := (HX.out.below B2.out) k hk2
          subst hAq
          have HOT2 := Lib.hid (HOT.out hk2)
          have HNX2 := Lib.hid (HNX.out hk2 HZE.out)
          have i1 : (0 : Int) ≤ (k : Int) := by omega
          have i2 : (k : Int) < (hs.length : Int) := by omega
          have t1 : decide ((hs.length : Int) ≤ (k : Int)) = false := decide_eq_false (by omega)
          have t2 : decide (hs.length ≤ k) = false := decide_eq_false (by omega)
          generalize hs[k] = y at *
          go_wp2_with fail
          refine (rchain_any H S _ (by have := HHZ.out; omega) (by have := HSZ.out; omega)).mono ?_
          rintro e w3 ⟨rfl, rfl⟩
          obtain ⟨C, HC⟩ : ∃ C, Hid (chainS H S = C) := ⟨_, Lib.hid rfl⟩
          rw [HC.out] at HOT2 HNX2 HTK
          rw [HC.out]
          by_cases hy : y = C
          · have HNX3 := Lib.hid (HNX2.out hy)
            have t3 : (y.toList == C.toList) = true := by rw [hy]; simp
            have t4 : (y.toList != C.toList) = false := by rw [hy]; simp
            have t5 : (C.toList == y.toList) = true := by rw [hy]; simp
            have t6 : (C.toList != y.toList) = false := by rw [hy]; simp
            clear hy
            go_wp2_with fail
            go_roundw
            case rel => exact ⟨k + 1, hlt, by go_num, congrArg Value.string HTK.out.symm, Lib.hid (by rw [HTK.out]; exact HNX3.out), B2.out⟩
            case measure => simp [intOf]; omega
          · have HR := Lib.hid (HOT2.out hy)
            have t3 : (y.toList == C.toList) = false := str_ne hy
            have t4 : (y.toList != C.toList) = true := by rw [bne, t3]; rfl
            have t5 : (C.toList == y.toList) = false := str_ne (fun h => hy h.symm)
            have t6 : (C.toList != y.toList) = true := by rw [bne, t5]; rfl
            clear hy
            go_wp2_with fail
            go_ret
            exact ⟨ret_int HR.out.symm, B2.out⟩
        · have HR := Lib.hid (HSH.out (by omega))
          have t1 : decide ((hs.length : Int) ≤ (k : Int)) = true := decide_eq_true (by omega)
          have t2 : decide (hs.length ≤ k) = true := decide_eq_true (by omega)
          go_wp2_with fail
          go_ret
          exact ⟨ret_int HR.out.symm, B2.out⟩
      · have HR := Lib.hid (HBD.out hE)
        have t0 : (E != 0) = true := by rw [bne_iff_ne]; exact hE
        clear hE
        go_wp2_with fail
        go_ret
        exact ⟨ret_int HR.out.symm, B2.out⟩
    · have HR := Lib.hid (HV.out.end (by omega))
      by_cases hk2 : l.length < hs.length
      · have HR2 : Hid (verS l hs = (l.length : Int)) := Lib.hid (by rw [HR.out, if_pos hk2])
        go_wp2_with fail
        go_ret
        exact ⟨ret_int HR2.out.symm, hbr⟩
      · have HR2 : Hid (verS l hs = -1) := Lib.hid (by rw [HR.out, if_neg hk2])
        go_wp2_with fail
        go_ret
        exact ⟨ret_int HR2.out.symm, hbr⟩
end Go.Proofs.YthdpkfddmkijlaaGreatDoor

/- The hash tree of a list: plain functions; digest.leaves, up, Root, Path and their references. -/
namespace Go.Proofs.YthdpkfddmkijlaaGreatDoor
open Go.RowKit

def zeroS : ByteArray := ⟨#[48]⟩
def oneS : ByteArray := ⟨#[49]⟩
def leafS (s : ByteArray) : ByteArray := textS (zeroS ++ s)
def nodeS (a b : ByteArray) : ByteArray := textS (oneS ++ a ++ b)
def leavesL (l : List ByteArray) : List ByteArray := l.map leafS
theorem leafS_room (s : ByteArray) (h : s.size ≤ 1000000) : ((⟨#[48]⟩ : ByteArray) ++ s).size ≤ 9223372036854775807 := by
  simp only [ByteArray.size_append]
  have : (⟨#[48]⟩ : ByteArray).size = 1 := rfl
  omega
set_option maxHeartbeats 1000000 in
theorem leaves_any (l : List ByteArray) (A : Option Addr) (c : Nat) (w : World) (hd : DigOk w) (hS : Strs w A l) (hl : l.length ≤ 1000000) (hz : ∀ s ∈ l, s.size ≤ 1000000) :
    Calls Tryz.prog 92 #[.slice A l.length c] w fun e w' => RetStrs w.heap.size w' e (leavesL l) ∧ Below w.heap.size w w' := by
  have HZ := Lib.hid hz
  clear hz
  obtain ⟨i0, hi, hz0, hz1, hz2⟩ := info_parts Tryz.info_s
  go_enter Tryz.func92, Tryz.ntmps92
  go_wp2_with (at_make; refine wpList_make_full _ rfl _ _ 33 rfl w.heap.size 9 i0 (.string ByteArray.empty) 1 Tryz.underlying33 hi hz0 hz1 .i64 .i64 _ _ l.length rfl rfl rfl rfl (by rw [hz2]; omega) (by unfold maxLen; omega) (Nat.le_refl _) ?_; intro w1 hown1 hg1)
  have HB1 := Lib.hid ((Below.refl w.heap.size w).grown hg1 (Nat.le_refl _) (by intro k hk; cases hk))
  clear hg1
  go_loopw [11] (fun i wr => ∃ k : Nat, ∃ xs : List Value, k ≤ l.length ∧ i = .int .i64 k ∧ wr.ownsRow w.heap.size 9 1 (.slice (some ⟨w.heap.size, 0, none⟩) l.length l.length) l.length xs ∧ Below w.heap.size w wr ∧ Done xs (leavesL l) k) (fun i _ => l.length - (intOf i).toNat)
  case atStart => exact ⟨0, _, Nat.zero_le _, rfl, hown1, HB1.out, Done.zero _ _⟩
  case round =>
    obtain ⟨k, xs, hk, rfl, hown, hbr, hdone⟩ := hrel
    have HD := Lib.hid hdone
    clear hdone hown1
    by_cases hlt : k < l.length
    · obtain ⟨b, o, rfl, hc⟩ := (hS.below hbr) k hlt
      have hlb := World.block_lt_of_cell? wr _ hc
      have hd2 := hd.below hbr
      have hsz : l[k].size ≤ 1000000 := HZ.out _ (List.getElem_mem hlt)
      have HR := Lib.hid (leafS_room l[k] hsz)
      have HX : Hid (xs.length = l.length) := by show _ = _; have := hown.1; omega
      obtain ⟨u, hu⟩ : ∃ u, xs[k]? = some u := ⟨_, List.getElem?_eq_getElem (by rw [HX.out]; exact hlt)⟩
      have HU := Lib.hid hu
      clear hu
      go_wp2_with (go_at_call 39; refine (text_any _ _ hd2 HR.out).mono ?_; rintro e w2 ⟨rfl, hb2⟩; have hown2 := own_below hown hb2; have hcell := (hown2.cellAt k (by omega)).trans HU.out; have hfr := hown2.frozenAt k)
      have HB2 : Hid (Below w.heap.size w _) := (bthen hbr hb2).setCell (p := ⟨w.heap.size, k, none⟩) (Nat.le_refl _) (.string (leafS l[k]))
      have HS := Lib.hid (hown2.stored k (.string (leafS l[k])))
      go_roundw
      case rel => exact ⟨k + 1, _, by omega, by go_num, HS.out.1, HB2.out, HD.out.set (by rw [HX.out]; exact hlt) (fun hl => by simp [leavesL])⟩
      case measure => simp [intOf]; omega
    · have HK : Hid (k = l.length) := by show _ = _; omega
      go_wp2
      go_ret
      refine ⟨⟨some ⟨w.heap.size, 0, none⟩, l.length, by simp [leavesL], Strs.own hown (by simp [leavesL]) (fun j hj => HD.out j hj (by rw [HK.out]; simpa [leavesL] using hj)), fun p h => by cases h; exact Nat.le_refl _⟩, hbr⟩

/-- Element i of the next level. -/
def upAt (l : List ByteArray) (i : Nat) : ByteArray := if _h : 2 * i + 1 < l.length then nodeS (l[2 * i]) (l[2 * i + 1]) else l.getD (2 * i) ByteArray.empty
def upL (l : List ByteArray) : List ByteArray := (List.range ((l.length + 1) / 2)).map (upAt l)
/-- The cells of the next level's first k elements. -/
def upCells (l : List ByteArray) (k : Nat) : List Value := (List.range k).map fun i => strV (upAt l i)
theorem upCells_succ (l : List ByteArray) (k : Nat) : upCells l k ++ [strV (upAt l k)] = upCells l (k + 1) := by
  simp [upCells, List.range_succ]
theorem upAt_last (l : List ByteArray) (k m : Nat) (hm : m = 2 * k) (hl : m < l.length) (h : m + 1 = l.length) : upAt l k = l[m] := by
  subst hm
  rw [upAt, dif_neg (by omega), List.getD_eq_getElem?_getD, List.getElem?_eq_getElem hl, Option.getD_some]
theorem upAt_pair (l : List ByteArray) (k m : Nat) (hm : m = 2 * k) (h : m + 1 < l.length) : upAt l k = textS (⟨#[49]⟩ ++ l[m] ++ l[m + 1]) := by
  subst hm
  rw [upAt, dif_pos h]; rfl
theorem nodeS_room (a b : ByteArray) (ha : a.size ≤ 1000000) (hb : b.size ≤ 1000000) : ((⟨#[49]⟩ : ByteArray) ++ a ++ b).size ≤ 9223372036854775807 := by
  simp only [ByteArray.size_append]
  have : (⟨#[49]⟩ : ByteArray).size = 1 := rfl
  omega

set_option maxHeartbeats 1000000 in
set_option maxRecDepth 100000 in
theorem up_any (l : List ByteArray) (A : Option Addr) (c : Nat) (w : World) (hd : DigOk w) (hS : Strs w A l) (hl : l.length ≤ 1000000) (hz : ∀ s ∈ l, s.size ≤ 1000000) :
    Calls Tryz.prog 93 #[.slice A l.length c] w fun e w' => RetStrs w.heap.size w' e (upL l) ∧ Below w.heap.size w w' := by
  have HZ := Lib.hid hz
  clear hz
  obtain ⟨i0, hi, hz0, hz1, hz2⟩ := info_parts Tryz.info_s
  go_enter Tryz.func93, Tryz.ntmps93
  go_wp2
  go_loopw [3, 4] (fun v i wr => ∃ k m : Nat, m = 2 * k ∧ m ≤ l.length + 1 ∧ i = .int .i64 m ∧ wr.ownsRow w.heap.size 9 1 v k (upCells l k) ∧ Below w.heap.size w wr) (fun _ i _ => l.length + 2 - (intOf i).toNat)
  case atStart => exact ⟨0, 0, rfl, by omega, rfl, World.ownsRow_nil _ _ _ _, Below.refl _ _⟩
  case round =>
    obtain ⟨k, m, hm, hk, rfl, hown, hbr⟩ := hrel
    have HM := Lib.hid hm
    have hkm : k ≤ 1000000 := by omega
    clear hm
    have hgt := hbr.size
    by_cases hlt : m < l.length
    · obtain ⟨b, o, rfl, hc⟩ := (hS.below hbr) m hlt
      have hlb := World.block_lt_of_cell? wr _ hc
      have hsz : l[m].size ≤ 1000000 := HZ.out _ (List.getElem_mem hlt)
      by_cases he : m + 1 = l.length
      · have HE := Lib.hid he
        have hb : ((m : Int) + 1 == (l.length : Int)) = true := by rw [beq_iff_eq]; omega
        clear he
        go_wp2_with (at_builtin; refine wpList_append_own _ rfl _ _ 33 rfl w.heap.size 9 i0 (.string ByteArray.empty) 1 16 Tryz.underlying33 hi hz0 hz1 hz2 rfl (by decide) _ _ _ rfl (hown.alloc _) ⟨wr.heap.size, 0, none⟩ 1 1 [strV l[m]] rfl rfl (cell_one_new _ _ _) (by intro u hu; simp at hu; subst hu; rfl) (by unfold maxLen; omega) (by omega) (by simp; omega) ?_; intro v' w1 hown1 hg1 _)
        have HB : Hid (Below w.heap.size w w1) := (hbr.alloc hgt _).grown hg1 (by simp; omega) (fun q hq => (hown.lt q hq).1)
        have HO : Hid (w1.ownsRow w.heap.size 9 1 v' (k + 1) (upCells l (k + 1))) := by
          show World.ownsRow _ _ _ _ _ _ _
          rw [← upCells_succ, upAt_last l k m HM.out hlt HE.out]; exact hown1
        clear hown1 hg1
        go_wp2
        go_roundw
        case rel => exact ⟨k + 1, m + 2, by rw [HM.out]; omega, by omega, by go_num, HO.out, HB.out⟩
        case measure => simp [intOf]; omega
      · have hlt2 : m + 1 < l.length := by omega
        have hb : ((m : Int) + 1 == (l.length : Int)) = false := by rw [beq_eq_false_iff_ne]; omega
        have hc2 : wr.cell? ⟨b, o + (m + 1), none⟩ = some (.string l[m + 1]) := by
          obtain ⟨b', o', e, hc2⟩ := (hS.below hbr) (m + 1) hlt2
          injection e with e; injection e with e1 e2; subst e1; subst e2; exact hc2
        clear he
        have hsz2 : l[m + 1].size ≤ 1000000 := HZ.out _ (List.getElem_mem hlt2)
        have hbw : b < w.heap.size := by
          obtain ⟨b', o', e, hcw⟩ := hS m hlt
          injection e with e; injection e with e1 e2; subst e1; exact World.block_lt_of_cell? w _ hcw
        have HR := Lib.hid (nodeS_room l[m] l[m + 1] hsz hsz2)
        have hd2 := (hd.below hbr).drew
        have hown0 := hown.drew
        have s1 : ¬ 9223372036854775807 < 1 + l[m].size := by omega
        have s2 : ¬ 9223372036854775807 < 1 + l[m].size + l[m + 1].size := by omega
        have i1 : (0 : Int) ≤ (m : Int) := by omega
        have i2 : (m : Int) < (l.length : Int) := by omega
        have i3 : (0 : Int) ≤ (m : Int) + 1 := by omega
        have i4 : (m : Int) + 1 < (l.length : Int) := by omega
        have i5 : ((m : Int) + 1).toNat = m + 1 := by omega
        have i6 : IntKind.i64.wrap ((m : Int) + 1) = (m : Int) + 1 := IntWalk.i64_in _ (by omega)
        go_wp2
        have hnb : some b ≠ Value.ownBlock _ := fun h => absurd ((hown.lt b h.symm).1) (by omega)
        go_region_law (first
            | (go_simp; go_at_call 39; refine (text_any _ _ hd2 HR.out).mono ?_; rintro e w2 ⟨rfl, hb2⟩)
            | (refine step_append_lies _ (by rfl) _ _ _ (by rfl) w.heap.size 9 i0 _ 1 16 Tryz.underlying33 hi hz0 hz1 hz2 rfl (by omega) _ k (upCells l k) (by rfl) ((own_below hown0 hb2).alloc _) ⟨w2.heap.size, 0, none⟩ 1 1 [strV (textS (⟨#[49]⟩ ++ l[m] ++ l[m + 1]))] (by rfl) (by rfl) ?_ ?_ (by omega) (by unfold maxLen; omega) (by omega) ?_ (w2.heap.size + 1) ?_ ?_; exact cell_one_new _ _ _; (intro u hu; simp at hu; subst hu; rfl); (have hz2' : wr.heap.size ≤ w2.heap.size := hb2.size; simp; omega); (simp); (intro gg cap w3 hown1 hgrow hat hlt3)))
        all_goals
          have HB : Hid (Below w.heap.size w w3) := (((hbr.drew).trans (hb2.mono hgt)).alloc (by have hz2' : wr.heap.size ≤ w2.heap.size := hb2.size; omega) _).grown hgrow (by have hz2' : wr.heap.size ≤ w2.heap.size := hb2.size; simp; omega) (fun q hq => (hown.lt q hq).1)
          have HO : Hid (w3.ownsRow w.heap.size 9 1 (.slice (some ⟨gg, 0, none⟩) (k + 1) cap) (k + 1) (upCells l (k + 1))) := by
            show World.ownsRow _ _ _ _ _ _ _
            rw [← upCells_succ, upAt_pair l k m HM.out hlt2]; exact hown1
          clear hown1 hgrow
          go_wp2
          go_roundw
          case rel => exact ⟨k + 1, m + 2, by rw [HM.out]; omega, by omega, by go_num, HO.out, HB.out⟩
          case measure => simp [intOf]; omega
    · have HK : Hid (k = (l.length + 1) / 2) := by show _ = _; have := HM.out; omega
      go_wp2
      go_ret
      refine ⟨?_, hbr⟩
      have hlen : (upL l).length = k := by rw [HK.out]; simp [upL]
      exact RetStrs.own hown hlen (fun j hj => by
        have hj' : j < k := by rw [← hlen]; exact hj
        simp [upCells, upL, strV, hj'])
end Go.Proofs.YthdpkfddmkijlaaGreatDoor

/- identityref03.leaves and up compute leavesL and upL. -/
namespace Go.Proofs.YthdpkfddmkijlaaGreatDoor
open Go.RowKit

def leafCells (l : List ByteArray) (k : Nat) : List Value := (l.take k).map fun s => strV (leafS s)
theorem leafCells_succ (l : List ByteArray) (k : Nat) (h : k < l.length) : leafCells l k ++ [strV (textS (⟨#[48]⟩ ++ l[k]))] = leafCells l (k + 1) := by
  unfold leafCells
  rw [List.take_succ_eq_append_getElem h, List.map_append]
  rfl

set_option maxHeartbeats 1000000 in
theorem rleaves_any (l : List ByteArray) (A : Option Addr) (c : Nat) (w : World) (hS : Strs w A l) (hl : l.length ≤ 1000000) (hz : ∀ s ∈ l, s.size ≤ 1000000) :
    Calls Tryz.prog 94 #[.slice A l.length c] w fun e w' => RetStrs w.heap.size w' e (leavesL l) ∧ Below w.heap.size w w' := by
  have HZ := Lib.hid hz
  clear hz
  obtain ⟨i0, hi, hz0, hz1, hz2⟩ := info_parts Tryz.info_s
  go_enter Tryz.func94, Tryz.ntmps94
  go_wp2
  go_loopw [3, 4] (fun v i wr => ∃ k : Nat, k ≤ l.length ∧ i = .int .i64 k ∧ wr.ownsRow w.heap.size 9 1 v k (leafCells l k) ∧ Below w.heap.size w wr) (fun _ i _ => l.length - (intOf i).toNat)
  case atStart => exact ⟨0, by omega, rfl, World.ownsRow_nil _ _ _ _, Below.refl _ _⟩
  case round =>
    obtain ⟨k, hk, rfl, hown, hbr⟩ := hrel
    have hgt := hbr.size
    by_cases hlt : k < l.length
    · obtain ⟨b, o, rfl, hc⟩ := (hS.below hbr) k hlt
      have hlb := World.block_lt_of_cell? wr _ hc
      have hsz : l[k].size ≤ 1000000 := HZ.out _ (List.getElem_mem hlt)
      have HR := Lib.hid (leafS_room l[k] hsz)
      have HL := Lib.hid (leafCells_succ l k hlt)
      generalize l[k] = x at *
      go_wp2_with (first
        | (go_at_call 59; refine (rtext_any _ _ HR.out).mono ?_; rintro e w2 ⟨rfl, rfl⟩)
        | (at_builtin; refine wpList_append_own _ rfl _ _ 33 rfl w.heap.size 9 i0 (.string ByteArray.empty) 1 16 Tryz.underlying33 hi hz0 hz1 hz2 rfl (by decide) _ _ _ rfl (hown.alloc _) ⟨wr.heap.size, 0, none⟩ 1 1 [strV (textS (⟨#[48]⟩ ++ x))] rfl rfl (cell_one_new _ _ _) (by intro u hu; simp at hu; subst hu; rfl) (by unfold maxLen; omega) (by omega) (by simp; omega) ?_; intro v' w1 hown1 hg1 _))
      have HB : Hid (Below w.heap.size w w1) := (hbr.alloc hgt _).grown hg1 (by simp; omega) (fun q hq => (hown.lt q hq).1)
      have HO : Hid (w1.ownsRow w.heap.size 9 1 v' (k + 1) (leafCells l (k + 1))) := by
        show World.ownsRow _ _ _ _ _ _ _
        rw [← HL.out]; exact hown1
      clear hown1 hg1
      go_wp2
      go_roundw
      case rel => exact ⟨k + 1, by omega, by go_num, HO.out, HB.out⟩
      case measure => simp [intOf]; omega
    · have HK : Hid (k = l.length) := by show _ = _; omega
      go_wp2
      go_ret
      refine ⟨?_, hbr⟩
      have hlen : (leavesL l).length = k := by rw [HK.out]; simp [leavesL]
      exact RetStrs.own hown hlen (fun j hj => by
        have hj' : j < l.length := by rw [← HK.out, ← hlen]; exact hj
        rw [HK.out]
        simp [leafCells, leavesL, strV, hj'])

set_option maxHeartbeats 1000000 in
set_option maxRecDepth 100000 in
theorem rup_any (l : List ByteArray) (A : Option Addr) (c : Nat) (w : World) (hS : Strs w A l) (hl : l.length ≤ 1000000) (hz : ∀ s ∈ l, s.size ≤ 1000000) :
    Calls Tryz.prog 95 #[.slice A l.length c] w fun e w' => RetStrs w.heap.size w' e (upL l) ∧ Below w.heap.size w w' := by
  have HZ := Lib.hid hz
  clear hz
  obtain ⟨i0, hi, hz0, hz1, hz2⟩ := info_parts Tryz.info_s
  go_enter Tryz.func95, Tryz.ntmps95
  go_wp2
  go_loopw [3, 4] (fun v i wr => ∃ k m : Nat, m = 2 * k ∧ m ≤ l.length + 1 ∧ i = .int .i64 m ∧ wr.ownsRow w.heap.size 9 1 v k (upCells l k) ∧ Below w.heap.size w wr) (fun _ i _ => l.length + 2 - (intOf i).toNat)
  case atStart => exact ⟨0, 0, rfl, by omega, rfl, World.ownsRow_nil _ _ _ _, Below.refl _ _⟩
  case round =>
    obtain ⟨k, m, hm, hk, rfl, hown, hbr⟩ := hrel
    have HM := Lib.hid hm
    have hkm : k ≤ 1000000 := by omega
    clear hm
    have hgt := hbr.size
    by_cases hlt : m < l.length
    · obtain ⟨b, o, rfl, hc⟩ := (hS.below hbr) m hlt
      have hlb := World.block_lt_of_cell? wr _ hc
      have hsz : l[m].size ≤ 1000000 := HZ.out _ (List.getElem_mem hlt)
      by_cases he : m + 1 = l.length
      · have HE := Lib.hid he
        have hb : ¬ ((m : Int) + 1 < (l.length : Int)) := by omega
        clear he
        go_wp2_with (at_builtin; refine wpList_append_own _ rfl _ _ 33 rfl w.heap.size 9 i0 (.string ByteArray.empty) 1 16 Tryz.underlying33 hi hz0 hz1 hz2 rfl (by decide) _ _ _ rfl (hown.alloc _) ⟨wr.heap.size, 0, none⟩ 1 1 [strV l[m]] rfl rfl (cell_one_new _ _ _) (by intro u hu; simp at hu; subst hu; rfl) (by unfold maxLen; omega) (by omega) (by simp; omega) ?_; intro v' w1 hown1 hg1 _)
        have HB : Hid (Below w.heap.size w w1) := (hbr.alloc hgt _).grown hg1 (by simp; omega) (fun q hq => (hown.lt q hq).1)
        have HO : Hid (w1.ownsRow w.heap.size 9 1 v' (k + 1) (upCells l (k + 1))) := by
          show World.ownsRow _ _ _ _ _ _ _
          rw [← upCells_succ, upAt_last l k m HM.out hlt HE.out]; exact hown1
        clear hown1 hg1
        go_wp2
        go_roundw
        case rel => exact ⟨k + 1, m + 2, by rw [HM.out]; omega, by omega, by go_num, HO.out, HB.out⟩
        case measure => simp [intOf]; omega
      · have hlt2 : m + 1 < l.length := by omega
        have hc2 : wr.cell? ⟨b, o + (m + 1), none⟩ = some (.string l[m + 1]) := by
          obtain ⟨b', o', e, hc2⟩ := (hS.below hbr) (m + 1) hlt2
          injection e with e; injection e with e1 e2; subst e1; subst e2; exact hc2
        clear he
        have hsz2 : l[m + 1].size ≤ 1000000 := HZ.out _ (List.getElem_mem hlt2)
        have HR := Lib.hid (nodeS_room l[m] l[m + 1] hsz hsz2)
        have hown0 := hown.drew
        have s1 : ¬ 9223372036854775807 < 1 + l[m].size := by omega
        have s2 : ¬ 9223372036854775807 < 1 + l[m].size + l[m + 1].size := by omega
        have i1 : (0 : Int) ≤ (m : Int) := by omega
        have i2 : (m : Int) < (l.length : Int) := by omega
        have i3 : (0 : Int) ≤ (m : Int) + 1 := by omega
        have i4 : (m : Int) + 1 < (l.length : Int) := by omega
        have i5 : ((m : Int) + 1).toNat = m + 1 := by omega
        have i6 : IntKind.i64.wrap ((m : Int) + 1) = (m : Int) + 1 := IntWalk.i64_in _ (by omega)
        go_wp2
        go_region_law (first
            | (refine step_append_lies _ (by rfl) _ _ _ (by rfl) w.heap.size 9 i0 _ 1 16 Tryz.underlying33 hi hz0 hz1 hz2 rfl (by omega) _ k (upCells l k) (by rfl) (hown0.alloc _) ⟨wr.heap.size, 0, none⟩ 1 1 [strV (textS (⟨#[49]⟩ ++ l[m] ++ l[m + 1]))] (by rfl) (by rfl) ?_ ?_ (by omega) (by unfold maxLen; omega) (by omega) ?_ (wr.heap.size + 1) ?_ ?_; exact cell_one_new _ _ _; (intro u hu; simp at hu; subst hu; rfl); (simp; omega); (simp); (intro gg cap w3 hown1 hgrow hat hlt3))
            | (go_simp; go_at_call 59; refine (rtext_any _ _ HR.out).mono ?_; rintro e w2 ⟨rfl, rfl⟩))
        all_goals
          have HB : Hid (Below w.heap.size w w3) := ((hbr.drew).alloc hgt _).grown hgrow (by simp; omega) (fun q hq => (hown.lt q hq).1)
          have HO : Hid (w3.ownsRow w.heap.size 9 1 (.slice (some ⟨gg, 0, none⟩) (k + 1) cap) (k + 1) (upCells l (k + 1))) := by
            show World.ownsRow _ _ _ _ _ _ _
            rw [← upCells_succ, upAt_pair l k m HM.out hlt2]; exact hown1
          clear hown1 hgrow
          go_wp2
          go_roundw
          case rel => exact ⟨k + 1, m + 2, by rw [HM.out]; omega, by omega, by go_num, HO.out, HB.out⟩
          case measure => simp [intOf]; omega
    · have HK : Hid (k = (l.length + 1) / 2) := by show _ = _; have := HM.out; omega
      go_wp2
      go_ret
      refine ⟨?_, hbr⟩
      have hlen : (upL l).length = k := by rw [HK.out]; simp [upL]
      exact RetStrs.own hown hlen (fun j hj => by
        have hj' : j < k := by rw [← hlen]; exact hj
        simp [upCells, upL, strV, hj'])
end Go.Proofs.YthdpkfddmkijlaaGreatDoor

/- digest.Root and its reference compute rootS. -/
namespace Go.Proofs.YthdpkfddmkijlaaGreatDoor
open Go.RowKit

/-- The root over a level, with fuel. -/
def rootF : Nat → List ByteArray → ByteArray
  | 0, l => l.headD ByteArray.empty
  | f + 1, l => if l.length ≤ 1 then l.headD ByteArray.empty else rootF f (upL l)
def rootS (l : List ByteArray) : ByteArray := if l.length = 0 then textS ⟨#[]⟩ else rootF l.length (leavesL l)
theorem upL_length (l : List ByteArray) : (upL l).length = (l.length + 1) / 2 := by simp [upL]
theorem leavesL_length (l : List ByteArray) : (leavesL l).length = l.length := by simp [leavesL]
theorem rootF_step (f : Nat) (l : List ByteArray) (h : 1 < l.length) (hf : l.length ≤ f) : ∃ f', (upL l).length ≤ f' ∧ rootF f l = rootF f' (upL l) := by
  cases f with
  | zero => omega
  | succ f => exact ⟨f, by rw [upL_length]; omega, by rw [rootF, if_neg (by omega)]⟩
theorem rootF_end (f : Nat) (l : List ByteArray) (h : l.length = 1) : rootF f l = l[0] := by
  match l, h with
  | [a], _ => cases f <;> rfl
theorem leavesL_sizes (l : List ByteArray) : ∀ s ∈ leavesL l, s.size ≤ 1000000 := by
  intro s hs
  simp only [leavesL, List.mem_map] at hs
  obtain ⟨a, _, rfl⟩ := hs
  have := textS_size (zeroS ++ a)
  unfold leafS; omega
theorem upL_sizes (l : List ByteArray) (h : ∀ s ∈ l, s.size ≤ 1000000) : ∀ s ∈ upL l, s.size ≤ 1000000 := by
  intro s hs
  simp only [upL, List.mem_map, List.mem_range] at hs
  obtain ⟨i, hi, rfl⟩ := hs
  by_cases h2 : 2 * i + 1 < l.length
  · have := textS_size (oneS ++ l[2 * i] ++ l[2 * i + 1])
    rw [upAt, dif_pos h2]; unfold nodeS; omega
  · rw [upAt, dif_neg h2, List.getD_eq_getElem?_getD, List.getElem?_eq_getElem (by omega), Option.getD_some]
    exact h _ (List.getElem_mem _)
def lenOf : Value → Nat
  | .slice _ n _ => n
  | _ => 0

set_option maxHeartbeats 1000000 in
set_option maxRecDepth 100000 in
theorem root_any (l : List ByteArray) (A : Option Addr) (c : Nat) (w : World) (hd : DigOk w) (hS : Strs w A l) (hl : l.length ≤ 1000000) (hz : ∀ s ∈ l, s.size ≤ 1000000) :
    Calls Tryz.prog 67 #[.slice A l.length c] w fun e w' => e = .returned (.string (rootS l)) ∧ Below w.heap.size w w' := by
  by_cases h0 : l.length = 0
  · have HE : Hid (rootS l = textS ⟨#[]⟩) := by show _ = _; rw [rootS, if_pos h0]
    have hb : ((l.length : Int) == 0) = true := by rw [h0]; rfl
    clear h0 hz hS
    go_enter Tryz.func67, Tryz.ntmps67
    go_wp2_with (go_at_call 39; refine (text_any _ _ hd (by decide)).mono ?_; rintro e w2 ⟨rfl, hb2⟩)
    go_ret
    exact ⟨ret_str HE.out.symm, hb2⟩
  · have HL := Lib.hid (leaves_any l A c w hd hS hl hz)
    have HE : Hid (rootS l = rootF l.length (leavesL l)) := by show _ = _; rw [rootS, if_neg h0]
    have hb : ((l.length : Int) == 0) = false := by rw [beq_eq_false_iff_ne]; omega
    have hpos : 1 ≤ l.length := by omega
    clear h0 hz hS
    go_enter Tryz.func67, Tryz.ntmps67
    go_wp2_with (go_at_call 92; refine HL.out.mono ?_; rintro e w1 ⟨⟨A1, c1, rfl, hS1, _⟩, hb1⟩)
    go_loopw [3] (fun v wr => ∃ lv A2 c2 f, v = .slice A2 lv.length c2 ∧ Strs wr A2 lv ∧ 1 ≤ lv.length ∧ lv.length ≤ 1000000 ∧ (∀ s ∈ lv, s.size ≤ 1000000) ∧ lv.length ≤ f ∧ rootF f lv = rootS l ∧ Below w.heap.size w wr) (fun v _ => lenOf v)
    case atStart => exact ⟨leavesL l, A1, c1, l.length, rfl, hS1, by rw [leavesL_length]; exact hpos, by rw [leavesL_length]; exact hl, leavesL_sizes l, by rw [leavesL_length]; exact Nat.le_refl _, HE.out.symm, hb1⟩
    case round =>
      obtain ⟨lv, A2, c2, f, rfl, hS2, hp2, hl2, hz2, hf2, hr2, hbr⟩ := hrel
      by_cases hlt : 1 < lv.length
      · obtain ⟨f', hf', hr'⟩ := rootF_step f lv hlt hf2
        have HU := Lib.hid (up_any lv A2 c2 wr (hd.below hbr) hS2 hl2 hz2)
        have HR : Hid (rootF f' (upL lv) = rootS l) := by show _ = _; rw [← hr', hr2]
        have HZ := Lib.hid (upL_sizes lv hz2)
        clear hr' hr2 hz2 hS2 hS1
        go_wp2_with (go_at_call 93; refine HU.out.mono ?_; rintro e w3 ⟨⟨A3, c3, rfl, hS3, _⟩, hb3⟩)
        go_roundw
        case rel => exact ⟨upL lv, A3, c3, f', rfl, hS3, by rw [upL_length]; omega, by rw [upL_length]; omega, HZ.out, hf', HR.out, bthen hbr hb3⟩
        case measure => simp only [lenOf, upL_length]; omega
      · have h1 : lv.length = 1 := by omega
        obtain ⟨b, o, rfl, hc⟩ := hS2 0 (by omega)
        have HX : Hid (lv[0] = rootS l) := by show _ = _; rw [← hr2, rootF_end f lv h1]
        have HH := Lib.hid h1
        clear h1 hr2 hz2 hS2 hS1
        generalize lv[0] = x at *
        rw [Nat.add_zero] at hc
        go_wp2
        go_ret
        exact ⟨ret_str HX.out, hbr⟩

set_option maxHeartbeats 1000000 in
set_option maxRecDepth 100000 in
theorem rroot_any (l : List ByteArray) (A : Option Addr) (c : Nat) (w : World) (hS : Strs w A l) (hl : l.length ≤ 1000000) (hz : ∀ s ∈ l, s.size ≤ 1000000) :
    Calls Tryz.prog 68 #[.slice A l.length c] w fun e w' => e = .returned (.string (rootS l)) ∧ Below w.heap.size w w' := by
  by_cases h0 : l.length = 0
  · have HE : Hid (rootS l = textS ⟨#[]⟩) := by show _ = _; rw [rootS, if_pos h0]
    have HL := Lib.hid (rleaves_any l A c w hS hl hz)
    have hb : (((leavesL l).length : Int) == 0) = true := by rw [leavesL_length, h0]; rfl
    clear h0 hz hS
    go_enter Tryz.func68, Tryz.ntmps68
    go_wp2_with (first | (go_at_call 94; refine HL.out.mono ?_; rintro e w1 ⟨⟨A1, c1, rfl, hS1, _⟩, hb1⟩) | (go_at_call 59; refine (rtext_any _ _ (by decide)).mono ?_; rintro e w2 ⟨rfl, rfl⟩))
    go_ret
    exact ⟨ret_str HE.out.symm, hb1⟩
  · have HL := Lib.hid (rleaves_any l A c w hS hl hz)
    have HE : Hid (rootS l = rootF l.length (leavesL l)) := by show _ = _; rw [rootS, if_neg h0]
    have hb : (((leavesL l).length : Int) == 0) = false := by rw [beq_eq_false_iff_ne, leavesL_length]; omega
    have hpos : 1 ≤ l.length := by omega
    clear h0 hz hS
    go_enter Tryz.func68, Tryz.ntmps68
    go_wp2_with (go_at_call 94; refine HL.out.mono ?_; rintro e w1 ⟨⟨A1, c1, rfl, hS1, _⟩, hb1⟩)
    go_loopw [3] (fun v wr => ∃ lv A2 c2 f, v = .slice A2 lv.length c2 ∧ Strs wr A2 lv ∧ 1 ≤ lv.length ∧ lv.length ≤ 1000000 ∧ (∀ s ∈ lv, s.size ≤ 1000000) ∧ lv.length ≤ f ∧ rootF f lv = rootS l ∧ Below w.heap.size w wr) (fun v _ => lenOf v)
    case atStart => exact ⟨leavesL l, A1, c1, l.length, rfl, hS1, by rw [leavesL_length]; exact hpos, by rw [leavesL_length]; exact hl, leavesL_sizes l, by rw [leavesL_length]; exact Nat.le_refl _, HE.out.symm, hb1⟩
    case round =>
      obtain ⟨lv, A2, c2, f, rfl, hS2, hp2, hl2, hz2, hf2, hr2, hbr⟩ := hrel
      by_cases hlt : 1 < lv.length
      · obtain ⟨f', hf', hr'⟩ := rootF_step f lv hlt hf2
        have HU := Lib.hid (rup_any lv A2 c2 wr hS2 hl2 hz2)
        have HR : Hid (rootF f' (upL lv) = rootS l) := by show _ = _; rw [← hr', hr2]
        have HZ := Lib.hid (upL_sizes lv hz2)
        clear hr' hr2 hz2 hS2 hS1
        go_wp2_with (go_at_call 95; refine HU.out.mono ?_; rintro e w3 ⟨⟨A3, c3, rfl, hS3, _⟩, hb3⟩)
        go_roundw
        case rel => exact ⟨upL lv, A3, c3, f', rfl, hS3, by rw [upL_length]; omega, by rw [upL_length]; omega, HZ.out, hf', HR.out, bthen hbr hb3⟩
        case measure => simp only [lenOf, upL_length]; omega
      · have h1 : lv.length = 1 := by omega
        obtain ⟨b, o, rfl, hc⟩ := hS2 0 (by omega)
        have HX : Hid (lv[0] = rootS l) := by show _ = _; rw [← hr2, rootF_end f lv h1]
        have HH := Lib.hid h1
        clear h1 hr2 hz2 hS2 hS1
        generalize lv[0] = x at *
        rw [Nat.add_zero] at hc
        go_wp2
        go_ret
        exact ⟨ret_str HX.out, hbr⟩
end Go.Proofs.YthdpkfddmkijlaaGreatDoor

/- digest.Path and its reference compute pathS. -/
namespace Go.Proofs.YthdpkfddmkijlaaGreatDoor
open Go.RowKit

def sibL (l : List ByteArray) (i : Nat) : List ByteArray := if i % 2 = 1 then [l.getD (i - 1) ByteArray.empty] else if i + 1 < l.length then [l.getD (i + 1) ByteArray.empty] else []
def pathF : Nat → List ByteArray → Nat → List ByteArray
  | 0, _, _ => []
  | f + 1, l, i => if l.length ≤ 1 then [] else sibL l i ++ pathF f (upL l) (i / 2)
def pathIn (l : List ByteArray) (i : Int) : Bool := decide (0 ≤ i ∧ i < l.length)
def pathS (l : List ByteArray) (i : Int) : List ByteArray := if pathIn l i then pathF l.length (leavesL l) i.toNat else []
def pathE (l : List ByteArray) (i : Int) : Int := if pathIn l i then 0 else 27
theorem pathF_step (f : Nat) (l : List ByteArray) (i : Nat) (h : 1 < l.length) (hf : l.length ≤ f) : ∃ f', (upL l).length ≤ f' ∧ pathF f l i = sibL l i ++ pathF f' (upL l) (i / 2) := by
  cases f with
  | zero => omega
  | succ f => exact ⟨f, by rw [upL_length]; omega, by rw [pathF, if_neg (by omega)]⟩
theorem pathF_end (f : Nat) (l : List ByteArray) (i : Nat) (h : l.length ≤ 1) : pathF f l i = [] := by
  cases f with
  | zero => rfl
  | succ f => rw [pathF, if_pos h]
theorem sibL_odd (l : List ByteArray) (j : Nat) (hj : j % 2 = 0) (h : j < l.length) : sibL l (j + 1) = [l[j]] := by
  rw [sibL, if_pos (by omega), Nat.add_sub_cancel, List.getD_eq_getElem?_getD, List.getElem?_eq_getElem h, Option.getD_some]
theorem sibL_even (l : List ByteArray) (i : Nat) (hi : i % 2 = 0) (h : i + 1 < l.length) : sibL l i = [l[i + 1]] := by
  rw [sibL, if_neg (by omega), if_pos h, List.getD_eq_getElem?_getD, List.getElem?_eq_getElem h, Option.getD_some]
theorem sibL_lone (l : List ByteArray) (i : Nat) (hi : i % 2 = 0) (h : ¬ i + 1 < l.length) : sibL l i = [] := by
  rw [sibL, if_neg (by omega), if_neg h]
theorem xor1_nat (i : Nat) : i ^^^ 1 = 2 * (i / 2) + (i + 1) % 2 := by
  have h1 : (i ^^^ 1) % 2 = (i + 1) % 2 := by
    have h := @Nat.xor_mod_two_eq_one i 1
    by_cases hi : i % 2 = 1
    · have : ¬ (i ^^^ 1) % 2 = 1 := by rw [h]; simp [hi]
      omega
    · have : (i ^^^ 1) % 2 = 1 := by rw [h]; simp [hi]
      omega
  have h2 : (i ^^^ 1) / 2 = i / 2 := by rw [Nat.xor_div_two]; simp
  omega
theorem xor1 (i : Nat) (h : i < 1000000000) : bits BinOp.xor IntKind.i64 (i : Int) 1 = ((2 * (i / 2) + (i + 1) % 2 : Nat) : Int) := by
  have h1 : (BitVec.ofInt 64 (i : Int)).toNat = i := by rw [BitVec.ofInt_natCast, BitVec.toNat_ofNat]; exact Nat.mod_eq_of_lt (by omega)
  have h2 : (BitVec.ofInt 64 1).toNat = 1 := by decide
  show IntKind.i64.wrap ((BitVec.ofInt 64 (i : Int) ^^^ BitVec.ofInt 64 1).toNat : Int) = _
  rw [BitVec.toNat_xor, h1, h2, xor1_nat]
  exact IntWalk.i64_in _ (by omega)
theorem xor1_even (i : Nat) (h : i < 1000000000) (hi : i % 2 = 0) : bits BinOp.xor IntKind.i64 (i : Int) 1 = (i : Int) + 1 := by
  rw [xor1 i h]; omega
theorem xor1_odd (j : Nat) (h : j < 1000000) (hj : j % 2 = 0) : bits BinOp.xor IntKind.i64 ((j : Int) + 1) 1 = (j : Int) := by
  have := xor1 (j + 1) (by omega)
  rw [show (((j + 1 : Nat) : Int)) = (j : Int) + 1 by omega] at this
  rw [this]; omega
set_option maxHeartbeats 1600000 in
set_option maxRecDepth 100000 in
theorem path_any (l : List ByteArray) (A : Option Addr) (c : Nat) (i : Int) (w : World) (hd : DigOk w) (hS : Strs w A l) (hl : l.length ≤ 1000000) (hz : ∀ s ∈ l, s.size ≤ 1000000) :
    Calls Tryz.prog 64 #[.slice A l.length c, .int .i64 i] w fun e w' => RetStrs2 w.heap.size w' e (pathS l i) (pathE l i) ∧ Below w.heap.size w w' := by
  by_cases h0 : 0 ≤ i ∧ i < l.length
  · have HP : Hid (pathS l i = pathF l.length (leavesL l) i.toNat) := by show _ = _; rw [pathS, pathIn, if_pos (by simpa using h0)]
    have HE : Hid (pathE l i = 0) := by show _ = _; rw [pathE, pathIn, if_pos (by simpa using h0)]
    obtain ⟨h0, h1⟩ := h0
    obtain ⟨i, rfl⟩ := Int.eq_ofNat_of_zero_le h0
    rw [Int.toNat_natCast] at HP
    have HL := Lib.hid (leaves_any l A c w hd hS hl hz)
    obtain ⟨i0, hi, hz0, hz1, hz2⟩ := info_parts Tryz.info_s
    clear hz hS
    go_enter Tryz.func64, Tryz.ntmps64
    go_wp2_with (go_at_call 92; refine HL.out.mono ?_; rintro e w1 ⟨⟨A1, c1, rfl, hS1, hF1⟩, hb1⟩)
    go_loopw [1, 6, 7] (fun iv v lvv wr => ∃ (j : Nat) (P : List ByteArray) (lv : List ByteArray) (A2 : Option Addr) (c2 f : Nat), iv = .int .i64 (j : Int) ∧ j < lv.length ∧ lvv = .slice A2 lv.length c2 ∧ Strs wr A2 lv ∧ lv.length ≤ 1000000 ∧ P.length + lv.length ≤ 2000000 ∧ (∀ s ∈ lv, s.size ≤ 1000000) ∧ lv.length ≤ f ∧ P ++ pathF f lv j = pathS l (i : Int) ∧ wr.ownsRow w.heap.size 9 1 v P.length (strVs P) ∧ (∀ p g, A2 = some p → v.ownBlock = some g → p.block ≠ g) ∧ Below w.heap.size w wr) (fun _ _ v _ => lenOf v)
    case atStart => exact ⟨i, [], leavesL l, A1, c1, l.length, rfl, by rw [leavesL_length]; omega, rfl, hS1, by rw [leavesL_length]; exact hl, by rw [leavesL_length]; simp; omega, leavesL_sizes l, by rw [leavesL_length]; exact Nat.le_refl _, HP.out.symm, World.ownsRow_nil _ _ _ _, (fun p g _ h => by simp [Value.ownBlock] at h), hb1⟩
    case round =>
      obtain ⟨j, P, lv, A2, c2, f, rfl, hj, rfl, hS2, hl2, hPl, hz2, hf2, hp2, hown, hne, hbr⟩ := hrel
      have hgt := hbr.size
      clear hS1 hF1
      by_cases hlt : 1 < lv.length
      · obtain ⟨f', hf', hp'⟩ := pathF_step f lv j hlt hf2
        have HU := fun (wx : World) (hdx : DigOk wx) (hSx : Strs wx A2 lv) => up_any lv A2 c2 wx hdx hSx hl2 hz2
        have HU := Lib.hid HU
        have HZ := Lib.hid (upL_sizes lv hz2)
        have HN := Lib.hid hne
        clear hz2 hne
        by_cases hpar : j % 2 = 0
        · have HX := Lib.hid (xor1_even j (by omega) hpar)
          by_cases hlt2 : j + 1 < lv.length
          · -- the sibling on the right
            have HPP : Hid ((P ++ [lv[j + 1]]) ++ pathF f' (upL lv) (j / 2) = pathS l (i : Int)) := by
              show _ = _; rw [← hp2, hp', sibL_even lv j hpar hlt2, List.append_assoc]
            have hx := HX.out
            obtain ⟨b, o, rfl, hc⟩ := hS2 (j + 1) hlt2
            have HSN := Lib.hid (strVs_snoc P lv[j + 1])
            clear hp2 hp' hpar
            generalize lv[j + 1] = x at *
            go_wp2_with (first
              | (at_builtin; refine wpList_append_own _ rfl _ _ 33 rfl w.heap.size 9 i0 (.string ByteArray.empty) 1 16 Tryz.underlying33 hi hz0 hz1 hz2 rfl (by decide) _ _ _ rfl (hown.alloc _) ⟨wr.heap.size, 0, none⟩ 1 1 [strV x] rfl rfl (cell_one_new _ _ _) (by intro u hu; simp at hu; subst hu; rfl) (by unfold maxLen; omega) (by omega) (by simp; omega) ?_; intro v' w1 hown1 hg1 _))
            have HB : Hid (Below w.heap.size w w1) := (hbr.alloc hgt _).grown hg1 (by simp; omega) (fun q hq => (hown.lt q hq).1)
            have HO : Hid (w1.ownsRow w.heap.size 9 1 v' (P ++ [x]).length (strVs (P ++ [x]))) := by
              show World.ownsRow _ _ _ _ _ _ _
              rw [← HSN.out, List.length_append]; exact hown1
            refine (HU.out w1 (hd.below HB.out) ((hS2.alloc _).far hg1 HN.out)).mono ?_
            rintro e w3 ⟨⟨A3, c3, rfl, hS3, hF3⟩, hb3⟩
            clear hown1 hg1
            go_wp2
            go_roundw
            case rel => exact ⟨j / 2, P ++ [x], upL lv, A3, c3, f', by go_num, by rw [upL_length]; omega, rfl, hS3, by rw [upL_length]; omega, by rw [upL_length, List.length_append]; simp; omega, HZ.out, hf', HPP.out, own_below HO.out hb3, (fun p g hp hg => by have := hF3 p hp; have := (HO.out.lt g hg).2; omega), bthen HB.out hb3⟩
            case measure => simp only [lenOf, upL_length]; omega
          · -- no sibling
            have HPP : Hid (P ++ pathF f' (upL lv) (j / 2) = pathS l (i : Int)) := by
              show _ = _; rw [← hp2, hp', sibL_lone lv j hpar hlt2, List.nil_append]
            have hx := HX.out
            clear hp2 hp' hpar
            go_wp2_with (go_at_call 93; refine (HU.out wr (hd.below hbr) hS2).mono ?_; rintro e w3 ⟨⟨A3, c3, rfl, hS3, hF3⟩, hb3⟩)
            go_roundw
            case rel => exact ⟨j / 2, P, upL lv, A3, c3, f', by go_num, by rw [upL_length]; omega, rfl, hS3, by rw [upL_length]; omega, by rw [upL_length]; omega, HZ.out, hf', HPP.out, own_below hown hb3, (fun p g hp hg => by have := hF3 p hp; have := (hown.lt g hg).2; omega), bthen hbr hb3⟩
            case measure => simp only [lenOf, upL_length]; omega
        · -- the sibling on the left
          obtain ⟨q, rfl⟩ : ∃ q, j = q + 1 := ⟨j - 1, by omega⟩
          have hq2 : q % 2 = 0 := by omega
          have hq1 : q < lv.length := by omega
          have HX := Lib.hid (xor1_odd q (by omega) hq2)
          have HPP : Hid ((P ++ [lv[q]]) ++ pathF f' (upL lv) ((q + 1) / 2) = pathS l (i : Int)) := by
            show _ = _; rw [← hp2, hp', sibL_odd lv q hq2 hq1, List.append_assoc]
          have hx := HX.out
          obtain ⟨b, o, rfl, hc⟩ := hS2 q hq1
          have HSN := Lib.hid (strVs_snoc P lv[q])
          clear hp2 hp' hpar hq2
          generalize lv[q] = x at *
          go_wp2_with (first
            | (at_builtin; refine wpList_append_own _ rfl _ _ 33 rfl w.heap.size 9 i0 (.string ByteArray.empty) 1 16 Tryz.underlying33 hi hz0 hz1 hz2 rfl (by decide) _ _ _ rfl (hown.alloc _) ⟨wr.heap.size, 0, none⟩ 1 1 [strV x] rfl rfl (cell_one_new _ _ _) (by intro u hu; simp at hu; subst hu; rfl) (by unfold maxLen; omega) (by omega) (by simp; omega) ?_; intro v' w1 hown1 hg1 _))
          have HB : Hid (Below w.heap.size w w1) := (hbr.alloc hgt _).grown hg1 (by simp; omega) (fun q hq => (hown.lt q hq).1)
          have HO : Hid (w1.ownsRow w.heap.size 9 1 v' (P ++ [x]).length (strVs (P ++ [x]))) := by
            show World.ownsRow _ _ _ _ _ _ _
            rw [← HSN.out, List.length_append]; exact hown1
          refine (HU.out w1 (hd.below HB.out) ((hS2.alloc _).far hg1 HN.out)).mono ?_
          rintro e w3 ⟨⟨A3, c3, rfl, hS3, hF3⟩, hb3⟩
          clear hown1 hg1
          go_wp2
          go_roundw
          case rel => exact ⟨(q + 1) / 2, P ++ [x], upL lv, A3, c3, f', by go_num, by rw [upL_length]; omega, rfl, hS3, by rw [upL_length]; omega, by rw [upL_length, List.length_append]; simp; omega, HZ.out, hf', HPP.out, own_below HO.out hb3, (fun p g hp hg => by have := hF3 p hp; have := (HO.out.lt g hg).2; omega), bthen HB.out hb3⟩
          case measure => simp only [lenOf, upL_length]; omega
      · have HQ : Hid (P = pathS l (i : Int)) := by show _ = _; rw [← hp2, pathF_end f lv j (by omega), List.append_nil]
        clear hp2 hz2 hne
        go_wp2
        go_ret2
        rw [HE.out, ← HQ.out]
        exact ⟨RetStrs2.own hown rfl (strVs_at P), hbr⟩
  · have HP : Hid (pathS l i = []) := by show _ = _; rw [pathS, pathIn, if_neg (by simpa using h0)]
    have HE : Hid (pathE l i = 27) := by show _ = _; rw [pathE, pathIn, if_neg (by simpa using h0)]
    have hcs : i < 0 ∨ (0 ≤ i ∧ (l.length : Int) ≤ i) := by omega
    clear hz hS h0
    rcases hcs with h | ⟨h, h'⟩
    all_goals
      go_enter Tryz.func64, Tryz.ntmps64
      go_wp2
      go_ret2
      rw [HE.out, HP.out]
      exact ⟨⟨none, 0, rfl, Strs.nil_ _ _, (fun p h => by cases h), Nat.le_refl _⟩, Below.refl _ _⟩
set_option maxHeartbeats 1600000 in
set_option maxRecDepth 100000 in
theorem rpath_any (l : List ByteArray) (A : Option Addr) (c : Nat) (i : Int) (w : World) (hS : Strs w A l) (hl : l.length ≤ 1000000) (hz : ∀ s ∈ l, s.size ≤ 1000000) :
    Calls Tryz.prog 65 #[.slice A l.length c, .int .i64 i] w fun e w' => RetStrs2 w.heap.size w' e (pathS l i) (pathE l i) ∧ Below w.heap.size w w' := by
  by_cases h0 : 0 ≤ i ∧ i < l.length
  · have HP : Hid (pathS l i = pathF l.length (leavesL l) i.toNat) := by show _ = _; rw [pathS, pathIn, if_pos (by simpa using h0)]
    have HE : Hid (pathE l i = 0) := by show _ = _; rw [pathE, pathIn, if_pos (by simpa using h0)]
    obtain ⟨h0, h1⟩ := h0
    obtain ⟨i, rfl⟩ := Int.eq_ofNat_of_zero_le h0
    rw [Int.toNat_natCast] at HP
    have HL := Lib.hid (rleaves_any l A c w hS hl hz)
    obtain ⟨i0, hi, hz0, hz1, hz2⟩ := info_parts Tryz.info_s
    clear hz hS
    go_enter Tryz.func65, Tryz.ntmps65
    go_wp2_with (go_at_call 94; refine HL.out.mono ?_; rintro e w1 ⟨⟨A1, c1, rfl, hS1, hF1⟩, hb1⟩)
    go_loopw [1, 6, 7] (fun iv v lvv wr => ∃ (j : Nat) (P : List ByteArray) (lv : List ByteArray) (A2 : Option Addr) (c2 f : Nat), iv = .int .i64 (j : Int) ∧ j < lv.length ∧ lvv = .slice A2 lv.length c2 ∧ Strs wr A2 lv ∧ lv.length ≤ 1000000 ∧ P.length + lv.length ≤ 2000000 ∧ (∀ s ∈ lv, s.size ≤ 1000000) ∧ lv.length ≤ f ∧ P ++ pathF f lv j = pathS l (i : Int) ∧ wr.ownsRow w.heap.size 9 1 v P.length (strVs P) ∧ (∀ p g, A2 = some p → v.ownBlock = some g → p.block ≠ g) ∧ Below w.heap.size w wr) (fun _ _ v _ => lenOf v)
    case atStart => exact ⟨i, [], leavesL l, A1, c1, l.length, rfl, by rw [leavesL_length]; omega, rfl, hS1, by rw [leavesL_length]; exact hl, by rw [leavesL_length]; simp; omega, leavesL_sizes l, by rw [leavesL_length]; exact Nat.le_refl _, HP.out.symm, World.ownsRow_nil _ _ _ _, (fun p g _ h => by simp [Value.ownBlock] at h), hb1⟩
    case round =>
      obtain ⟨j, P, lv, A2, c2, f, rfl, hj, rfl, hS2, hl2, hPl, hz2, hf2, hp2, hown, hne, hbr⟩ := hrel
      have hgt := hbr.size
      clear hS1 hF1
      by_cases hlt : 1 < lv.length
      · obtain ⟨f', hf', hp'⟩ := pathF_step f lv j hlt hf2
        have HU := fun (wx : World) (hSx : Strs wx A2 lv) => rup_any lv A2 c2 wx hSx hl2 hz2
        have HU := Lib.hid HU
        have HZ := Lib.hid (upL_sizes lv hz2)
        have HN := Lib.hid hne
        clear hz2 hne
        by_cases hpar : j % 2 = 0
        · have hpb : (((j : Int) % 2) == 1) = false := by rw [beq_eq_false_iff_ne]; omega
          by_cases hlt2 : j + 1 < lv.length
          · -- the sibling on the right
            have HPP : Hid ((P ++ [lv[j + 1]]) ++ pathF f' (upL lv) (j / 2) = pathS l (i : Int)) := by
              show _ = _; rw [← hp2, hp', sibL_even lv j hpar hlt2, List.append_assoc]
            obtain ⟨b, o, rfl, hc⟩ := hS2 (j + 1) hlt2
            have HSN := Lib.hid (strVs_snoc P lv[j + 1])
            clear hp2 hp' hpar
            generalize lv[j + 1] = x at *
            go_wp2_with (first
              | (at_builtin; refine wpList_append_own _ rfl _ _ 33 rfl w.heap.size 9 i0 (.string ByteArray.empty) 1 16 Tryz.underlying33 hi hz0 hz1 hz2 rfl (by decide) _ _ _ rfl (hown.alloc _) ⟨wr.heap.size, 0, none⟩ 1 1 [strV x] rfl rfl (cell_one_new _ _ _) (by intro u hu; simp at hu; subst hu; rfl) (by unfold maxLen; omega) (by omega) (by simp; omega) ?_; intro v' w1 hown1 hg1 _))
            have HB : Hid (Below w.heap.size w w1) := (hbr.alloc hgt _).grown hg1 (by simp; omega) (fun q hq => (hown.lt q hq).1)
            have HO : Hid (w1.ownsRow w.heap.size 9 1 v' (P ++ [x]).length (strVs (P ++ [x]))) := by
              show World.ownsRow _ _ _ _ _ _ _
              rw [← HSN.out, List.length_append]; exact hown1
            refine (HU.out w1 ((hS2.alloc _).far hg1 HN.out)).mono ?_
            rintro e w3 ⟨⟨A3, c3, rfl, hS3, hF3⟩, hb3⟩
            clear hown1 hg1
            go_wp2
            go_roundw
            case rel => exact ⟨j / 2, P ++ [x], upL lv, A3, c3, f', by go_num, by rw [upL_length]; omega, rfl, hS3, by rw [upL_length]; omega, by rw [upL_length, List.length_append]; simp; omega, HZ.out, hf', HPP.out, own_below HO.out hb3, (fun p g hp hg => by have := hF3 p hp; have := (HO.out.lt g hg).2; omega), bthen HB.out hb3⟩
            case measure => simp only [lenOf, upL_length]; omega
          · -- no sibling
            have HPP : Hid (P ++ pathF f' (upL lv) (j / 2) = pathS l (i : Int)) := by
              show _ = _; rw [← hp2, hp', sibL_lone lv j hpar hlt2, List.nil_append]
            clear hp2 hp' hpar
            go_wp2_with (go_at_call 95; refine (HU.out wr hS2).mono ?_; rintro e w3 ⟨⟨A3, c3, rfl, hS3, hF3⟩, hb3⟩)
            go_roundw
            case rel => exact ⟨j / 2, P, upL lv, A3, c3, f', by go_num, by rw [upL_length]; omega, rfl, hS3, by rw [upL_length]; omega, by rw [upL_length]; omega, HZ.out, hf', HPP.out, own_below hown hb3, (fun p g hp hg => by have := hF3 p hp; have := (hown.lt g hg).2; omega), bthen hbr hb3⟩
            case measure => simp only [lenOf, upL_length]; omega
        · -- the sibling on the left
          obtain ⟨q, rfl⟩ : ∃ q, j = q + 1 := ⟨j - 1, by omega⟩
          have hq2 : q % 2 = 0 := by omega
          have hq1 : q < lv.length := by omega
          have hpb : (((q : Int) + 1) % 2 == 1) = true := by rw [beq_iff_eq]; omega
          have HPP : Hid ((P ++ [lv[q]]) ++ pathF f' (upL lv) ((q + 1) / 2) = pathS l (i : Int)) := by
            show _ = _; rw [← hp2, hp', sibL_odd lv q hq2 hq1, List.append_assoc]
          obtain ⟨b, o, rfl, hc⟩ := hS2 q hq1
          have HSN := Lib.hid (strVs_snoc P lv[q])
          clear hp2 hp' hpar hq2
          generalize lv[q] = x at *
          go_wp2_with (first
            | (at_builtin; refine wpList_append_own _ rfl _ _ 33 rfl w.heap.size 9 i0 (.string ByteArray.empty) 1 16 Tryz.underlying33 hi hz0 hz1 hz2 rfl (by decide) _ _ _ rfl (hown.alloc _) ⟨wr.heap.size, 0, none⟩ 1 1 [strV x] rfl rfl (cell_one_new _ _ _) (by intro u hu; simp at hu; subst hu; rfl) (by unfold maxLen; omega) (by omega) (by simp; omega) ?_; intro v' w1 hown1 hg1 _))
          have HB : Hid (Below w.heap.size w w1) := (hbr.alloc hgt _).grown hg1 (by simp; omega) (fun q hq => (hown.lt q hq).1)
          have HO : Hid (w1.ownsRow w.heap.size 9 1 v' (P ++ [x]).length (strVs (P ++ [x]))) := by
            show World.ownsRow _ _ _ _ _ _ _
            rw [← HSN.out, List.length_append]; exact hown1
          refine (HU.out w1 ((hS2.alloc _).far hg1 HN.out)).mono ?_
          rintro e w3 ⟨⟨A3, c3, rfl, hS3, hF3⟩, hb3⟩
          clear hown1 hg1
          go_wp2
          go_roundw
          case rel => exact ⟨(q + 1) / 2, P ++ [x], upL lv, A3, c3, f', by go_num, by rw [upL_length]; omega, rfl, hS3, by rw [upL_length]; omega, by rw [upL_length, List.length_append]; simp; omega, HZ.out, hf', HPP.out, own_below HO.out hb3, (fun p g hp hg => by have := hF3 p hp; have := (HO.out.lt g hg).2; omega), bthen HB.out hb3⟩
          case measure => simp only [lenOf, upL_length]; omega
      · have HQ : Hid (P = pathS l (i : Int)) := by show _ = _; rw [← hp2, pathF_end f lv j (by omega), List.append_nil]
        clear hp2 hz2 hne
        go_wp2
        go_ret2
        rw [HE.out, ← HQ.out]
        exact ⟨RetStrs2.own hown rfl (strVs_at P), hbr⟩
  · have HP : Hid (pathS l i = []) := by show _ = _; rw [pathS, pathIn, if_neg (by simpa using h0)]
    have HE : Hid (pathE l i = 27) := by show _ = _; rw [pathE, pathIn, if_neg (by simpa using h0)]
    have hcs : i < 0 ∨ (0 ≤ i ∧ (l.length : Int) ≤ i) := by omega
    clear hz hS h0
    rcases hcs with h | ⟨h, h'⟩
    all_goals
      go_enter Tryz.func65, Tryz.ntmps65
      go_wp2
      go_ret2
      rw [HE.out, HP.out]
      exact ⟨⟨none, 0, rfl, Strs.nil_ _ _, (fun p h => by cases h), Nat.le_refl _⟩, Below.refl _ _⟩
end Go.Proofs.YthdpkfddmkijlaaGreatDoor

/- identityref03.Same. -/
namespace Go.Proofs.YthdpkfddmkijlaaGreatDoor
open Go.RowKit

set_option maxHeartbeats 1600000 in
set_option maxRecDepth 100000 in
theorem same_any (l m : List ByteArray) (A B : Option Addr) (c d : Nat) (w : World) (hA : Strs w A l) (hB : Strs w B m) (hl : l.length ≤ 1000000) (hm : m.length ≤ 1000000) :
    Calls Tryz.prog 19 #[.slice A l.length c, .slice B m.length d] w fun e w' => e = .returned (.bool (decide (l = m))) ∧ Below w.heap.size w w' := by
  by_cases hlen : l.length = m.length
  · have hb : ((l.length : Int) != (m.length : Int)) = false := by rw [hlen]; simp
    have HL := Lib.hid hlen
    have hlm : l.length ≤ m.length := by omega
    clear hlen
    go_enter Tryz.func19, Tryz.ntmps19
    go_wp2
    go_loopw [5] (fun i wr => ∃ k : Nat, k ≤ l.length ∧ i = .int .i64 k ∧ l.take k = m.take k ∧ Below w.heap.size w wr) (fun i _ => l.length - (intOf i).toNat)
    case atStart => exact ⟨0, by omega, rfl, rfl, Below.refl _ _⟩
    case round =>
      obtain ⟨k, hk, rfl, htk, hbr⟩ := hrel
      have HT := Lib.hid htk
      clear htk
      by_cases hlt : k < l.length
      · obtain ⟨b, o, rfl, hc⟩ := (hA.below hbr) k hlt
        obtain ⟨b2, o2, rfl, hc2⟩ := (hB.below hbr) k (by omega)
        have i1 : (0 : Int) ≤ (k : Int) := by omega
        have i2 : (k : Int) < (l.length : Int) := by omega
        have i3 : (k : Int) < (m.length : Int) := by omega
        by_cases he : l[k] = m[k]
        · have HS : Hid (l.take (k + 1) = m.take (k + 1)) := by
            show _ = _
            rw [List.take_succ_eq_append_getElem hlt, List.take_succ_eq_append_getElem (by omega), HT.out, he]
          go_wp2
          go_quiet (fail)
          go_wp2_with fail
          go_roundw
          case rel => exact ⟨k + 1, by omega, by go_num, HS.out, below_drewN hbr _⟩
          case measure => simp [intOf]; omega
        · have hq := str_ne he
          have HS : Hid (decide (l = m) = false) := by
            show _ = _
            rw [decide_eq_false_iff_not]
            intro e
            subst e
            exact he rfl
          clear he
          go_wp2
          go_quiet (fail)
          go_wp2_with fail
          go_ret
          exact ⟨ret_bool HS.out.symm, below_drewN hbr _⟩
      · have HS : Hid (decide (l = m) = true) := by
          show _ = _
          rw [decide_eq_true_iff]
          have h1 := HT.out
          rw [List.take_of_length_le (by omega), List.take_of_length_le (by have := HL.out; omega)] at h1
          exact h1
        go_wp2
        go_ret
        exact ⟨ret_bool HS.out.symm, hbr⟩
  · have hb : ((l.length : Int) != (m.length : Int)) = true := by rw [bne_iff_ne]; omega
    have HS : Hid (decide (l = m) = false) := by
      show _ = _
      rw [decide_eq_false_iff_not]
      intro e
      exact hlen (by rw [e])
    clear hlen
    go_enter Tryz.func19, Tryz.ntmps19
    go_wp2
    go_ret
    exact ⟨ret_bool HS.out.symm, Below.refl _ _⟩
end Go.Proofs.YthdpkfddmkijlaaGreatDoor

/- digest.Proves, identityref03.Strings, Proves, Same, and identitylaw03.short. -/
namespace Go.Proofs.YthdpkfddmkijlaaGreatDoor
open Go.RowKit

/-- What identitylaw03.short reports. -/
def shortB (l : List ByteArray) : Bool := decide (l.length ≤ 20 ∧ ∀ s ∈ l, s.size ≤ 300)
end Go.Proofs.YthdpkfddmkijlaaGreatDoor

