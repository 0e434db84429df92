/- TokenAccepted: for every ring of keys, every string and every receiver the law answers true and leaves its arguments alone; no condition. -/
import Derived.Lay
import Derived.Test.YtiiioefjdebggaaGreatDoorCards
import Derived.Test.YtiiioefjdebggaaGreatDoorTie
import Derived.Test.YtiiioefjdebggaaGreatDoorSeg5
import Derived.Test.YtiiioefjdebggaaGreatDoorSeg16
import Derived.Test.YtiiioefjdebggaaGreatDoorSeg18
import Derived.Test.YtiiioefjdebggaaGreatDoorSeg13
import Derived.Test.YtiiioefjdebggaaGreatDoorSeg19
import Derived.Test.YtiiioefjdebggaaGreatDoorSeg10
import Derived.Test.YtiiioefjdebggaaGreatDoorSeg20
import Derived.Test.YtiiioefjdebggaaGreatDoorSeg17
namespace Go.Proofs.YtiiioefjdebggaaGreatDoor.tokenAccepted
open Go.ChangeShapes Go.WideShapes Go.ChangeAt Go.RowKit
open Go.ChangeMaps (open_string)

theorem acc_facts {l : List Ky} {s : ByteArray} {x : Ex} (h : verE l s x = 0) : ∃ id text sum, TokIs s id text sum ∧ accE l id x.now x.skew = 0 ∧ (accV l id x.now x.skew).id = id ∧ accV l id x.now x.skew ∈ l ∧ sum = sgnS (accV l id x.now x.skew).sec (s.extract 0 (s.size - 17)) ∧ allowE (verC l s x) x = 0 ∧ 17 ≤ s.size ∧ sum.size = 16 := by
  obtain ⟨id, text, sum, k, c, ht, hf, hw, hs, _, ha, _, hc⟩ := ver_zero h
  obtain ⟨a1, a2⟩ := accK_some hf x.now x.skew
  rw [if_pos hw] at a2
  obtain ⟨b1, b2⟩ := tok_head ht
  refine ⟨id, text, sum, ht, by rw [a1, hw], by rw [a2]; exact (findK_has hf).2, by rw [a2]; exact (findK_has hf).1, by rw [a2, b2]; exact hs, by rw [hc]; exact ha, b1, by rw [hs]; exact sgnS_size _ _⟩
set_option linter.unusedSimpArgs false in
set_option maxHeartbeats 8000000 in
set_option maxRecDepth 100000 in
theorem walk (l : List Ky) (A : Option Addr) (cc : Nat) (s : ByteArray) (x : Ex) (w : World) (hd : DigOk w) (hp : PowOk w) (hk : KeysOk w) (hE : ErrsOk w) (hS : KysAt w A l) (hl : l.length ≤ 9223372036854775807) (hz : ∀ k ∈ l, k.sec.size ≤ 140737488351232) (hs : s.size ≤ 140737488351232) :
    Calls Tryz.prog 6 #[.slice A l.length cc, .string s, exV x] w fun e w' => e = .returned (.bool true) ∧ Below w.heap.size w w' := by
  have B1 : Hid (Below w.heap.size w (w.alloc (exO0 x))) := Lib.hid ((Below.refl _ _).alloc (Nat.le_refl _) _)
  have X1 : Hid (ExBox (w.alloc (exO0 x)) w.heap.size x) := Lib.hid (ExBox.new w x)
  have HS := Lib.hid hS
  have HZ0 := Lib.hid hz
  have HZ : Hid (∀ k ∈ l, wordS k.id = true → k.sec.size ≤ 140737488351232) := Lib.hid (fun k hk _ => hz k hk)
  have HLN := Lib.hid (@left_no l s x)
  have HLP : Hid (verE l s x = 0 → 0 < leftV l s x) := Lib.hid (fun h => (left_ok h rfl rfl).2)
  have HAF := Lib.hid (@acc_facts l s x)
  obtain ⟨L, HL⟩ : ∃ E, Hid (leftV l s x = E) := ⟨_, Lib.hid rfl⟩
  obtain ⟨E, HE⟩ : ∃ E, Hid (verE l s x = E) := ⟨_, Lib.hid rfl⟩
  obtain ⟨C, HC⟩ : ∃ E, Hid (verC l s x = E) := ⟨_, Lib.hid rfl⟩
  rw [HL.out, HE.out] at HLN HLP
  rw [HE.out, HC.out] at HAF
  clear hS hz
  go_enter Tryz.func6, Tryz.ntmps6
  go_upto_region 1 with (first | (refine box_ex rfl _ rfl _ rfl x rfl ?_) | fail)
  go_wp2_with (first | (refine load_ex_g rfl _ rfl _ rfl w.heap.size rfl x X1 ?_) | fail)
  refine (verify26_any l A cc s x _ (hd.below B1.out) (hp.below B1.out) (hk.below B1.out) (hE.below B1.out) (HS.out.below B1.out) hl hs HZ.out).mono ?_
  rintro e w2 ⟨⟨q2, rfl, hda, hdi⟩, hb2⟩
  rw [HC.out, HE.out]
  rw [HC.out] at hda hdi
  have Z2 : Hid (ClBox (w2.alloc (clO cl0 p30)) w2.heap.size cl0 p30) := Lib.hid (ClBox.new _ _ _)
  obtain ⟨W2, HW2⟩ : ∃ W, Hid (((w2.alloc (clO cl0 p30)).setRow w2.heap.size (clA C q2)) = W) := ⟨_, Lib.hid rfl⟩
  have bb := below_cl w2 C q2
  have V2 : Hid (ClBox W2 w2.heap.size C q2) := Lib.hid (by rw [← HW2.out]; exact ClBox.set Z2.out)
  rw [HW2.out] at bb
  have X2 := Lib.hid ((X1.out.below hb2).below bb)
  have D2 := Lib.hid (hda.below bb)
  have I2 := Lib.hid hdi
  have B2 := Lib.hid (bthen B1.out (bthen hb2 bb))
  clear hda hdi bb hb2
  by_cases h0 : E = 0
  · have t1 : (E != 0) = false := by rw [h0]; rfl
    obtain ⟨id, text, sum, ht, ha1, ha2, ha3, ha4, ha5, ha6, ha7⟩ := HAF.out h0
    have hL : decide ((0 : Int) < L) = true := decide_eq_true (HLP.out h0)
    have HT := Lib.hid ht
    have HG := Lib.hid ha1
    have HKI := Lib.hid ha2
    have HKM := Lib.hid ha3
    have HSG := Lib.hid ha4
    have HAL := Lib.hid ha5
    have HSS := Lib.hid ha6
    have HUZ := Lib.hid ha7
    clear ht ha1 ha2 ha3 ha4 ha5 ha6 ha7 HAF HLN HLP h0
    go_upto_region 4 with (first | (refine alloc_cl rfl _ rfl rfl ?_) | (refine store_cl rfl _ rfl _ _ rfl w2.heap.size rfl C q2 rfl cl0 p30 Z2 ?_; rw [HW2.out]) | fail)
    go_wp2_with fail
    refine (split26_any s _ (hd.below B2.out) hs).mono ?_
    rintro e w3 ⟨(⟨a, b, c, rfl, hti, _, _, _⟩ | ⟨rfl, hno⟩), hb3⟩
    rotate_left
    · exact absurd HT.out (hno _ _ _)
    obtain ⟨rfl, rfl, rfl⟩ := hti.inj HT.out
    have B3 := Lib.hid (bthen B2.out hb3)
    have X3 := Lib.hid (X2.out.below hb3)
    have V3 := Lib.hid (V2.out.below hb3)
    have D3 := Lib.hid (D2.out.below hb3)
    clear hb3 hti HT
    obtain ⟨x4, x5⟩ := X3.out.cells
    obtain ⟨KY, HK⟩ : ∃ E, Hid (accV l a x.now x.skew = E) := ⟨_, Lib.hid rfl⟩
    rw [HK.out] at HKI HKM HSG
    have hkz : KY.sec.size ≤ 140737488355327 := Nat.le_trans (HZ0.out KY HKM.out) (by decide)
    go_wp2_with fail
    refine (accepting_any l A cc a x.now x.skew _ (HS.out.below B3.out) hl).mono ?_
    rintro e w4 ⟨rfl, hb4⟩
    rw [HK.out, HG.out]
    have Z4 : Hid (KyBox (w4.alloc (kyO ky0)) w4.heap.size ky0) := Lib.hid (KyBox.new _ _)
    have bb := below_ky w4 ky0 KY
    obtain ⟨W4, HW4⟩ : ∃ W, Hid (((w4.alloc (kyO ky0)).setRow w4.heap.size (kyA KY)) = W) := ⟨_, Lib.hid rfl⟩
    have Y4 : Hid (KyBox W4 w4.heap.size KY) := Lib.hid (by rw [← HW4.out]; exact KyBox.set Z4.out)
    rw [HW4.out] at bb
    have X4 := Lib.hid ((X3.out.below hb4).below bb)
    have V4 := Lib.hid ((V3.out.below hb4).below bb)
    have D4 := Lib.hid ((D3.out.below hb4).below bb)
    have B4 := Lib.hid (bthen B3.out (bthen hb4 bb))
    clear bb hb4 x4 x5
    go_upto_region 6 with (first
      | (refine alloc_ky rfl _ rfl rfl ?_)
      | (refine store_ky rfl _ rfl _ _ rfl w4.heap.size rfl KY rfl ky0 Z4 ?_; rw [HW4.out])
      | fail)
    obtain ⟨y0, y1, y2, y3, y4, y5⟩ := Y4.out.cells
    have t2 : (KY.id.toList != a.toList) = false := by rw [HKI.out]; simp
    have t3 : (KY.id.toList == a.toList) = true := by rw [HKI.out]; simp
    have t4 : ((c.size : Int) != 16) = false := by rw [HUZ.out]; rfl
    have t5 : decide ((s.size : Int) < 17) = false := decide_eq_false (by have := HSS.out; omega)
    go_upto_region 8 with fail
    clear y0 y1 y2 y3 y4 y5 t2 t3 t4 t5
    have hez : (s.extract 0 (s.size - 17)).size ≤ 140737488355327 := by rw [ByteArray.size_extract]; omega
    have hss := HSS.out
    have i0 : (0 : Int) ≤ (s.size : Int) - 17 := by omega
    have i2 : ((s.size : Int) - 17).toNat = s.size - 17 := by omega
    have i3 : IntKind.i64.wrap ((s.size : Int) - 17) = (s.size : Int) - 17 := by rw [IntKind.wrap_i64]; omega
    have i4 : (s.size : Int) - 17 ≤ (s.size : Int) := by omega
    have i5 : (17 : Int) ≤ (s.size : Int) := by omega
    obtain ⟨M, HM⟩ : ∃ E, Hid (macS KY.sec (s.extract 0 (s.size - 17)) = E) := ⟨_, Lib.hid rfl⟩
    have hmz : M.size ≤ 9223372036854775807 := by rw [← HM.out, macS, textS_size]; decide
    have HTX : Hid (textS M = c) := Lib.hid (by rw [← HM.out, HSG.out, sgnS_eq])
    have tcc : (c.toList == c.toList) = true := by simp
    have X5 : Hid (ExBox W4.drew w.heap.size x) := Lib.hid X4.out
    have V5 : Hid (ClBox W4.drew w2.heap.size C q2) := Lib.hid V4.out
    have Y5 : Hid (KyBox W4.drew w4.heap.size KY) := Lib.hid Y4.out
    have D5 : Hid (ClAt W4.drew C q2) := Lib.hid (D4.out.below ((Below.refl _ _).drew))
    have B5 : Hid (Below w.heap.size w W4.drew) := Lib.hid B4.out.drew
    clear HSG HUZ HSS HKI HG X4 V4 Y4 D4 hss
    refine wp_region_held_drew (S := fun w' => ExBox w' w.heap.size x ∧ ClBox w' w2.heap.size C q2 ∧ KyBox w' w4.heap.size KY) (by kernel_rfl) ?_ (fun hHeld => ?_)
    · first | exact ⟨X5.out, V5.out, Y5.out⟩ | exact ⟨X6.out, V6.out, Y6.out⟩ | exact ⟨X7.out, V7.out, Y7.out⟩ | exact ⟨X8.out, V8.out, Y8.out⟩ | exact ⟨X9.out, V9.out, Y9.out⟩ | exact ⟨X10.out, V10.out, Y10.out⟩
    refine wpAnyH_take (i := 0) (oi := _) (v := ?_) rfl (by kernel_rfl) (by kernel_rfl) (by kernel_rfl) (fun _ _ _ h => h) (Or.inl ⟨by rfl, ?_⟩) (by assumption) ?_
    rotate_left
    · (intro w hSw; (try dsimp only at hSw); go_simp; try with_reducible rfl)
    try simp only [List.getElem_toArray, List.getElem_cons_succ, List.getElem_cons_zero, Act.put, List.setIfInBounds_toArray, List.set_cons_zero, List.set_cons_succ]
    refine wpAnyH_take (i := 1) (oi := _) (v := ?_) rfl (by kernel_rfl) (by kernel_rfl) (by kernel_rfl) (fun _ _ _ h => h) (Or.inl ⟨by rfl, ?_⟩) (by assumption) ?_
    rotate_left
    · (intro w hSw; (try dsimp only at hSw); go_simp; try with_reducible rfl)
    try simp only [List.getElem_toArray, List.getElem_cons_succ, List.getElem_cons_zero, Act.put, List.setIfInBounds_toArray, List.set_cons_zero, List.set_cons_succ]
    refine wpAnyH_take (i := 2) (oi := _) (v := _) rfl (by kernel_rfl) (by kernel_rfl) (by kernel_rfl) (fun _ _ _ h => h) ((Or.inl ⟨by rfl, fun w hSw => by have hq := (KyBox.cells hSw.2.2).2.1; go_simp⟩ : YieldsIf _ _ _ _ (Value.string KY.sec) _)) (by assumption) ?_
    try simp only [List.getElem_toArray, List.getElem_cons_succ, List.getElem_cons_zero, Act.put, List.setIfInBounds_toArray, List.set_cons_zero, List.set_cons_succ]
    refine wpAnyH_take (i := 3) (oi := _) (v := ?_) rfl (by kernel_rfl) (by kernel_rfl) (by kernel_rfl) (fun _ _ _ h => h) (Or.inl ⟨by rfl, ?_⟩) (by assumption) ?_
    rotate_left
    · (intro w hSw; (try dsimp only at hSw); go_simp; try with_reducible rfl)
    try simp only [List.getElem_toArray, List.getElem_cons_succ, List.getElem_cons_zero, Act.put, List.setIfInBounds_toArray, List.set_cons_zero, List.set_cons_succ]
    refine wpAnyH_take (i := 4) (oi := _) (v := ?_) rfl (by kernel_rfl) (by kernel_rfl) (by kernel_rfl) (fun _ _ _ h => h) (Or.inl ⟨by rfl, ?_⟩) (by assumption) ?_
    rotate_left
    · (intro w hSw; (try dsimp only at hSw); go_simp; try with_reducible rfl)
    try simp only [List.getElem_toArray, List.getElem_cons_succ, List.getElem_cons_zero, Act.put, List.setIfInBounds_toArray, List.set_cons_zero, List.set_cons_succ]
    refine wpAnyH_take (i := 5) (oi := _) (v := ?_) rfl (by kernel_rfl) (by kernel_rfl) (by kernel_rfl) (fun _ _ _ h => h) (Or.inl ⟨by rfl, ?_⟩) (by assumption) ?_
    rotate_left
    · (intro w hSw; (try dsimp only at hSw); go_simp; try with_reducible rfl)
    try simp only [List.getElem_toArray, List.getElem_cons_succ, List.getElem_cons_zero, Act.put, List.setIfInBounds_toArray, List.set_cons_zero, List.set_cons_succ]
    refine wpAnyH_take (i := 6) (oi := _) (v := ?_) rfl (by kernel_rfl) (by kernel_rfl) (by kernel_rfl) (fun _ _ _ h => h) (Or.inl ⟨by rfl, ?_⟩) (by assumption) ?_
    rotate_left
    · (intro w hSw; (try dsimp only at hSw); go_simp; try with_reducible rfl)
    try simp only [List.getElem_toArray, List.getElem_cons_succ, List.getElem_cons_zero, Act.put, List.setIfInBounds_toArray, List.set_cons_zero, List.set_cons_succ]
    refine wpAnyH_take (i := 7) (oi := _) (v := ?_) rfl (by kernel_rfl) (by kernel_rfl) (by kernel_rfl) (fun _ _ _ h => h) (Or.inl ⟨by rfl, ?_⟩) (by assumption) ?_
    rotate_left
    · (intro w hSw; (try dsimp only at hSw); go_simp; try with_reducible rfl)
    try simp only [List.getElem_toArray, List.getElem_cons_succ, List.getElem_cons_zero, Act.put, List.setIfInBounds_toArray, List.set_cons_zero, List.set_cons_succ]
    refine wpAnyH_ready (rs := [8]) (by kernel_rfl) (by simp) ?_
    refine AllReadyH.cons (o := _) rfl (fun K hK => ?_) AllReadyH.nil
    go_simp
    (refine (mac2_any KY.sec (s.extract 0 (s.size - 17)) _ (hd.below B5.out) (hp.below B5.out) hkz hez).mono ?_; rintro e w6 ⟨rfl, hb6⟩; rw [HM.out]; have X6 := Lib.hid (X5.out.below hb6); have V6 := Lib.hid (V5.out.below hb6); have Y6 := Lib.hid (Y5.out.below hb6); have D6 := Lib.hid (D5.out.below hb6); have B6 := Lib.hid (bthen B5.out hb6); clear hb6)
    clear hHeld
    refine hK.out _ _ ?_ (fun hHeld => ?_)
    · (try dsimp only); first | exact ⟨X5.out, V5.out, Y5.out⟩ | exact ⟨X6.out, V6.out, Y6.out⟩ | exact ⟨X7.out, V7.out, Y7.out⟩ | exact ⟨X8.out, V8.out, Y8.out⟩ | exact ⟨X9.out, V9.out, Y9.out⟩ | exact ⟨X10.out, V10.out, Y10.out⟩
    clear hK K
    try simp only [List.getElem_toArray, List.getElem_cons_succ, List.getElem_cons_zero, Act.put, List.setIfInBounds_toArray, List.set_cons_zero, List.set_cons_succ]
    refine wpAnyH_ready (rs := [9]) (by kernel_rfl) (by simp) ?_
    refine AllReadyH.cons (o := _) rfl (fun K hK => ?_) AllReadyH.nil
    go_simp
    (refine (text_any M _ (hd.below B6.out) hmz).mono ?_; rintro e w7 ⟨rfl, hb7⟩; rw [HTX.out]; have X7 := Lib.hid (X6.out.below hb7); have V7 := Lib.hid (V6.out.below hb7); have Y7 := Lib.hid (Y6.out.below hb7); have D7 := Lib.hid (D6.out.below hb7); have B7 := Lib.hid (bthen B6.out hb7); clear hb7)
    clear hHeld
    refine hK.out _ _ ?_ (fun hHeld => ?_)
    · (try dsimp only); first | exact ⟨X5.out, V5.out, Y5.out⟩ | exact ⟨X6.out, V6.out, Y6.out⟩ | exact ⟨X7.out, V7.out, Y7.out⟩ | exact ⟨X8.out, V8.out, Y8.out⟩ | exact ⟨X9.out, V9.out, Y9.out⟩ | exact ⟨X10.out, V10.out, Y10.out⟩
    clear hK K
    try simp only [List.getElem_toArray, List.getElem_cons_succ, List.getElem_cons_zero, Act.put, List.setIfInBounds_toArray, List.set_cons_zero, List.set_cons_succ]
    refine wpAnyH_take (i := 10) (oi := _) (v := ?_) rfl (by kernel_rfl) (by kernel_rfl) (by kernel_rfl) (fun _ _ _ h => h) (Or.inl ⟨by rfl, ?_⟩) (by assumption) ?_
    rotate_left
    · (intro w hSw; (try dsimp only at hSw); go_simp; try with_reducible rfl)
    try simp only [List.getElem_toArray, List.getElem_cons_succ, List.getElem_cons_zero, Act.put, List.setIfInBounds_toArray, List.set_cons_zero, List.set_cons_succ]
    refine wpAnyH_take (i := 11) (oi := _) (v := ?_) rfl (by kernel_rfl) (by kernel_rfl) (by kernel_rfl) (fun _ _ _ h => h) (Or.inl ⟨by rfl, ?_⟩) (by assumption) ?_
    rotate_left
    · (intro w hSw; (try dsimp only at hSw); go_simp; try with_reducible rfl)
    try simp only [List.getElem_toArray, List.getElem_cons_succ, List.getElem_cons_zero, Act.put, List.setIfInBounds_toArray, List.set_cons_zero, List.set_cons_succ]
    refine wpAnyH_take (i := 12) (oi := _) (v := _) rfl (by kernel_rfl) (by kernel_rfl) (by kernel_rfl) (fun _ _ _ h => h) (yields_load_cl (by rfl) _ rfl w2.heap.size rfl C q2 (fun _ h => h.2.1)) (by assumption) ?_
    try simp only [List.getElem_toArray, List.getElem_cons_succ, List.getElem_cons_zero, Act.put, List.setIfInBounds_toArray, List.set_cons_zero, List.set_cons_succ]
    refine wpAnyH_take (i := 13) (oi := _) (v := _) rfl (by kernel_rfl) (by kernel_rfl) (by kernel_rfl) (fun _ _ _ h => h) (yields_load_ex (by rfl) _ rfl w.heap.size rfl x (fun _ h => h.1)) (by assumption) ?_
    try simp only [List.getElem_toArray, List.getElem_cons_succ, List.getElem_cons_zero, Act.put, List.setIfInBounds_toArray, List.set_cons_zero, List.set_cons_succ]
    refine wpAnyH_ready (rs := [14]) (by kernel_rfl) (by simp) ?_
    refine AllReadyH.cons (o := _) rfl (fun K hK => ?_) AllReadyH.nil
    go_simp
    (refine (allow_any C q2 x _ I2.out.m1 D7.out).mono ?_; rintro e w8 ⟨rfl, hb8⟩; rw [HAL.out]; have X8 := Lib.hid (X7.out.below hb8); have V8 := Lib.hid (V7.out.below hb8); have Y8 := Lib.hid (Y7.out.below hb8); have D8 := Lib.hid (D7.out.below hb8); have B8 := Lib.hid (bthen B7.out hb8); clear hb8)
    clear hHeld
    refine hK.out _ _ ?_ (fun hHeld => ?_)
    · (try dsimp only); first | exact ⟨X5.out, V5.out, Y5.out⟩ | exact ⟨X6.out, V6.out, Y6.out⟩ | exact ⟨X7.out, V7.out, Y7.out⟩ | exact ⟨X8.out, V8.out, Y8.out⟩ | exact ⟨X9.out, V9.out, Y9.out⟩ | exact ⟨X10.out, V10.out, Y10.out⟩
    clear hK K
    try simp only [List.getElem_toArray, List.getElem_cons_succ, List.getElem_cons_zero, Act.put, List.setIfInBounds_toArray, List.set_cons_zero, List.set_cons_succ]
    refine wpAnyH_take (i := 15) (oi := _) (v := ?_) rfl (by kernel_rfl) (by kernel_rfl) (by kernel_rfl) (fun _ _ _ h => h) (Or.inl ⟨by rfl, ?_⟩) (by assumption) ?_
    rotate_left
    · (intro w hSw; (try dsimp only at hSw); go_simp; try with_reducible rfl)
    try simp only [List.getElem_toArray, List.getElem_cons_succ, List.getElem_cons_zero, Act.put, List.setIfInBounds_toArray, List.set_cons_zero, List.set_cons_succ]
    refine wpAnyH_take (i := 16) (oi := _) (v := ?_) rfl (by kernel_rfl) (by kernel_rfl) (by kernel_rfl) (fun _ _ _ h => h) (Or.inl ⟨by rfl, ?_⟩) (by assumption) ?_
    rotate_left
    · (intro w hSw; (try dsimp only at hSw); go_simp; try with_reducible rfl)
    try simp only [List.getElem_toArray, List.getElem_cons_succ, List.getElem_cons_zero, Act.put, List.setIfInBounds_toArray, List.set_cons_zero, List.set_cons_succ]
    refine wpAnyH_take (i := 17) (oi := _) (v := ?_) rfl (by kernel_rfl) (by kernel_rfl) (by kernel_rfl) (fun _ _ _ h => h) (Or.inl ⟨by rfl, ?_⟩) (by assumption) ?_
    rotate_left
    · (intro w hSw; (try dsimp only at hSw); go_simp; try with_reducible rfl)
    try simp only [List.getElem_toArray, List.getElem_cons_succ, List.getElem_cons_zero, Act.put, List.setIfInBounds_toArray, List.set_cons_zero, List.set_cons_succ]
    refine wpAnyH_take (i := 18) (oi := _) (v := ?_) rfl (by kernel_rfl) (by kernel_rfl) (by kernel_rfl) (fun _ _ _ h => h) (Or.inl ⟨by rfl, ?_⟩) (by assumption) ?_
    rotate_left
    · (intro w hSw; (try dsimp only at hSw); go_simp; try with_reducible rfl)
    try simp only [List.getElem_toArray, List.getElem_cons_succ, List.getElem_cons_zero, Act.put, List.setIfInBounds_toArray, List.set_cons_zero, List.set_cons_succ]
    refine wpAnyH_take (i := 19) (oi := _) (v := ?_) rfl (by kernel_rfl) (by kernel_rfl) (by kernel_rfl) (fun _ _ _ h => h) (Or.inl ⟨by rfl, ?_⟩) (by assumption) ?_
    rotate_left
    · (intro w hSw; (try dsimp only at hSw); go_simp; try with_reducible rfl)
    try simp only [List.getElem_toArray, List.getElem_cons_succ, List.getElem_cons_zero, Act.put, List.setIfInBounds_toArray, List.set_cons_zero, List.set_cons_succ]
    refine wpAnyH_take (i := 20) (oi := _) (v := _) rfl (by kernel_rfl) (by kernel_rfl) (by kernel_rfl) (fun _ _ _ h => h) (yields_load_ex (by rfl) _ rfl w.heap.size rfl x (fun _ h => h.1)) (by assumption) ?_
    try simp only [List.getElem_toArray, List.getElem_cons_succ, List.getElem_cons_zero, Act.put, List.setIfInBounds_toArray, List.set_cons_zero, List.set_cons_succ]
    refine wpAnyH_ready (rs := [21]) (by kernel_rfl) (by simp) ?_
    refine AllReadyH.cons (o := _) rfl (fun K hK => ?_) AllReadyH.nil
    go_simp
    (refine (left26_any l A cc s x _ (hd.below B8.out) (hp.below B8.out) (hk.below B8.out) (hE.below B8.out) (HS.out.below B8.out) hl hs HZ.out).mono ?_; rintro e w9 ⟨rfl, hb9⟩; rw [HL.out]; have X9 := Lib.hid (X8.out.below hb9); have V9 := Lib.hid (V8.out.below hb9); have Y9 := Lib.hid (Y8.out.below hb9); have D9 := Lib.hid (D8.out.below hb9); have B9 := Lib.hid (bthen B8.out hb9); clear hb9)
    clear hHeld
    refine hK.out _ _ ?_ (fun hHeld => ?_)
    · (try dsimp only); first | exact ⟨X5.out, V5.out, Y5.out⟩ | exact ⟨X6.out, V6.out, Y6.out⟩ | exact ⟨X7.out, V7.out, Y7.out⟩ | exact ⟨X8.out, V8.out, Y8.out⟩ | exact ⟨X9.out, V9.out, Y9.out⟩ | exact ⟨X10.out, V10.out, Y10.out⟩
    clear hK K
    try simp only [List.getElem_toArray, List.getElem_cons_succ, List.getElem_cons_zero, Act.put, List.setIfInBounds_toArray, List.set_cons_zero, List.set_cons_succ]
    refine wpAnyH_take (i := 22) (oi := _) (v := ?_) rfl (by kernel_rfl) (by kernel_rfl) (by kernel_rfl) (fun _ _ _ h => h) (Or.inl ⟨by rfl, ?_⟩) (by assumption) ?_
    rotate_left
    · (intro w hSw; (try dsimp only at hSw); go_simp; try with_reducible rfl)
    try simp only [List.getElem_toArray, List.getElem_cons_succ, List.getElem_cons_zero, Act.put, List.setIfInBounds_toArray, List.set_cons_zero, List.set_cons_succ]
    refine wpAnyH_take (i := 23) (oi := _) (v := ?_) rfl (by kernel_rfl) (by kernel_rfl) (by kernel_rfl) (fun _ _ _ h => h) (Or.inl ⟨by rfl, ?_⟩) (by assumption) ?_
    rotate_left
    · (intro w hSw; (try dsimp only at hSw); go_simp; try with_reducible rfl)
    try simp only [List.getElem_toArray, List.getElem_cons_succ, List.getElem_cons_zero, Act.put, List.setIfInBounds_toArray, List.set_cons_zero, List.set_cons_succ]
    refine wpAnyH_take (i := 24) (oi := _) (v := ?_) rfl (by kernel_rfl) (by kernel_rfl) (by kernel_rfl) (fun _ _ _ h => h) (Or.inl ⟨by rfl, ?_⟩) (by assumption) ?_
    rotate_left
    · (intro w hSw; (try dsimp only at hSw); go_simp; try with_reducible rfl)
    try simp only [List.getElem_toArray, List.getElem_cons_succ, List.getElem_cons_zero, Act.put, List.setIfInBounds_toArray, List.set_cons_zero, List.set_cons_succ]
    refine wpAnyH_ready (rs := [25]) (by kernel_rfl) (by simp) ?_
    refine AllReadyH.cons (o := _) rfl (fun K hK => ?_) AllReadyH.nil
    go_simp
    (refine (example26_any _ (hd.below B9.out) (hp.below B9.out) (hk.below B9.out) (hE.below B9.out)).mono ?_; rintro e w10 ⟨rfl, hb10⟩; have X10 := Lib.hid (X9.out.below hb10); have V10 := Lib.hid (V9.out.below hb10); have Y10 := Lib.hid (Y9.out.below hb10); have D10 := Lib.hid (D9.out.below hb10); have B10 := Lib.hid (bthen B9.out hb10); clear hb10)
    clear hHeld
    refine hK.out _ _ ?_ (fun hHeld => ?_)
    · (try dsimp only); first | exact ⟨X5.out, V5.out, Y5.out⟩ | exact ⟨X6.out, V6.out, Y6.out⟩ | exact ⟨X7.out, V7.out, Y7.out⟩ | exact ⟨X8.out, V8.out, Y8.out⟩ | exact ⟨X9.out, V9.out, Y9.out⟩ | exact ⟨X10.out, V10.out, Y10.out⟩
    clear hK K
    try simp only [List.getElem_toArray, List.getElem_cons_succ, List.getElem_cons_zero, Act.put, List.setIfInBounds_toArray, List.set_cons_zero, List.set_cons_succ]
    refine wpAnyH_take (i := 26) (oi := _) (v := ?_) rfl (by kernel_rfl) (by kernel_rfl) (by kernel_rfl) (fun _ _ _ h => h) (Or.inl ⟨by rfl, ?_⟩) (by assumption) ?_
    rotate_left
    · (intro w hSw; (try dsimp only at hSw); go_simp; try with_reducible rfl)
    try simp only [List.getElem_toArray, List.getElem_cons_succ, List.getElem_cons_zero, Act.put, List.setIfInBounds_toArray, List.set_cons_zero, List.set_cons_succ]
    refine wpAnyH_take (i := 27) (oi := _) (v := ?_) rfl (by kernel_rfl) (by kernel_rfl) (by kernel_rfl) (fun _ _ _ h => h) (Or.inl ⟨by rfl, ?_⟩) (by assumption) ?_
    rotate_left
    · (intro w hSw; (try dsimp only at hSw); go_simp; try with_reducible rfl)
    try simp only [List.getElem_toArray, List.getElem_cons_succ, List.getElem_cons_zero, Act.put, List.setIfInBounds_toArray, List.set_cons_zero, List.set_cons_succ]
    refine wpAnyH_done (by kernel_rfl) ?_ _
    go_wp2_with fail
    go_ret
    exact ⟨rfl, B10.out⟩
  · have t1 : (E != 0) = true := by simpa using h0
    have HL0 := Lib.hid (HLN.out h0)
    clear h0 HAF HLN HLP
    go_wp2_with (first | (refine alloc_cl rfl _ rfl rfl ?_) | (refine store_cl rfl _ rfl _ _ rfl w2.heap.size rfl C q2 rfl cl0 p30 Z2 ?_; rw [HW2.out]) | (refine load_ex_g rfl _ rfl _ rfl w.heap.size rfl x X2 ?_) | fail)
    refine (left26_any l A cc s x _ (hd.below B2.out) (hp.below B2.out) (hk.below B2.out) (hE.below B2.out) (HS.out.below B2.out) hl hs HZ.out).mono ?_
    rintro e w3 ⟨rfl, hb3⟩
    rw [HL.out, HL0.out]
    have B3 := Lib.hid (bthen B2.out hb3)
    clear hb3
    have BL := B3
    go_wp2_with fail
    refine (example26_any _ (hd.below BL.out) (hp.below BL.out) (hk.below BL.out) (hE.below BL.out)).mono ?_
    rintro e wz ⟨rfl, hbz⟩
    have BZ := Lib.hid (bthen BL.out hbz)
    clear hbz
    go_wp2_with fail
    go_ret
    exact ⟨rfl, BZ.out⟩

set_option maxRecDepth 100000 in
/-- What the walk gives, for every argument and every world that holds the listed variables. -/
theorem contract (H : Type) (enc : TypeId × Value → H) (W : World) (base : Nat) (args : Array Value) (ds gs : List (DataW H)) (before : List MemPlace)
    (hval : ∀ (j : Nat) t v, Tryz.f6.params[j]? = some t → args[j]? = some v → Value.okWide Tryz.prog W .any base t v)
    (hwt : (DataW.weightsEach Tryz.prog (Tryz.f6.params.toList ++ []) (ds ++ gs)).all (· ≤ reachBytes) = true)
    (hW : DataW.Whole enc Tryz.prog Tryz.f6.params.toList Rows.tokenAcceptedSpec.vars false W args.toList ds gs before) (hL : laidMetH Tryz.prog Rows.tokenAcceptedRow.laid W) :
    Calls Tryz.prog 6 args W fun e W' => ∃ v, e = .returned v ∧ Rows.tokenAcceptedSpec.post enc Tryz.prog Tryz.f6 false true false false W args v W' := by
  have hW' := hW
  obtain ⟨p, q, hA0, hV, rfl, hfz, hnd⟩ := hW
  obtain ⟨rfl, rfl⟩ := trodVars_none hV
  have hA1 : DataW.TrodAll enc Tryz.prog W 0 (fun _ => true) true Tryz.f6.params.toList args.toList ds (p ++ []) := by rw [List.append_nil]; exact hA0
  have hA : DataW.TrodAll enc Tryz.prog W 0 (fun _ => true) true Tryz.f6.params.toList args.toList ds p := hA0
  rw [Tryz.params6] at hA hval
  obtain ⟨v0, vs0, d0, ds0, p0, q0, hargs, rfl, rfl, h0, r0⟩ := trodAll_cons hA
  obtain ⟨v1, vs1, d1, ds1, p1, q1, rfl, rfl, rfl, h1, r1⟩ := trodAll_cons r0
  obtain ⟨v2, vs2, d2, ds2, p2, q2, rfl, rfl, rfl, h2, r2⟩ := trodAll_cons r1
  obtain ⟨rfl, rfl, rfl⟩ := trodAll_nil r2
  obtain rfl : args = #[v0, v1, v2] := by cases args; simp_all
  obtain ⟨A0, l0, n0, rfl, S0, u0, m0, in0, z0⟩ := open_kys_sized (hval 0 22 v0 rfl rfl) h0 (fun n hn => by have h := List.all_eq_true.1 hwt n (DataW.weights_mem_each (j := 0) (t := 22) (by rw [Tryz.params6]; rfl) rfl n hn); simpa using h)
  obtain ⟨s1, rfl, rfl, rfl, hs1⟩ := open_string Tryz.underlying9 (hval 1 9 v1 rfl rfl) h1
  have hs1 : s1.size ≤ 9223372036854775807 := by unfold maxLen at hs1; exact hs1
  have z1 : s1.size ≤ 140737488351232 := by
    have h : s1.data.toList.length ≤ 140737488351232 := sized_string hwt (j := 1) (t := 9) (by rw [Tryz.params6]; rfl) rfl
    simpa using h
  obtain ⟨x2, rfl, in2⟩ := open_ex (hval 2 34 v2 rfl rfl) h2
  obtain ⟨hk, hp, hE, hd⟩ := laid_tabs hL
  refine (walk l0 A0 n0 s1 x2 W hd hp hk hE S0 m0 z0 z1).mono fun e W' ⟨he, hb⟩ => ?_
  subst he
  exact ⟨_, rfl, law_post laidOut (by kernel_rfl) (by kernel_rfl) Tryz.underlying4 hW' rfl rfl hA1 hb⟩

set_option maxRecDepth 100000 in
theorem reads (w : World) {H : Type} (enc : TypeId × Value → H) : ∃ places, DataW.whole enc Tryz.prog w Tryz.f6.params.toList Rows.tokenAcceptedSpec.vars false #[Value.slice none 0 0, .string ByteArray.empty, .agg #[.string ByteArray.empty, .string ByteArray.empty, .string ByteArray.empty, .string ByteArray.empty, .int .i64 0, .int .i64 0]].toList 8 = some ([.nil, .lit (.string []), .agg [.lit (.string []), .lit (.string []), .lit (.string []), .lit (.string []), .lit (.int .i64 0), .lit (.int .i64 0)]], [], places) :=
  ⟨[], by kernel_rfl⟩
theorem args_ok (w : World) : Input.okWideB Tryz.prog w 6 ⟨#[], #[.slice none 0 0, .string ByteArray.empty, .agg #[.string ByteArray.empty, .string ByteArray.empty, .string ByteArray.empty, .string ByteArray.empty, .int .i64 0, .int .i64 0]], []⟩ = true := by kernel_rfl
set_option maxRecDepth 100000 in
theorem lifted (os : Os) (started : os.Started) (H : Type) (enc : TypeId × Value → H) (F : Stop.Interp) :
    ReturnsInHanded {} Tryz.checked os 6 .any ((OpenSpec.ofChange Rows.tokenAcceptedSpec).preRow enc Tryz.prog Tryz.f6 Rows.tokenAcceptedRow.domain false Rows.tokenAcceptedRow.laid) (((OpenSpec.ofChange Rows.tokenAcceptedSpec).at F).post enc Tryz.prog Tryz.f6 false true false false) := by
  obtain ⟨places, hx⟩ := reads _ enc
  refine returnsInHanded_of_row (C := Tryz.checked) (s := OpenSpec.ofChange Rows.tokenAcceptedSpec) own started (by kernel_rfl) Tryz.func6
    (witness_row_at (enc := enc) (C := Tryz.checked) false (World.laidAll Tryz.prog os laidList) #[.slice none 0 0, .string ByteArray.empty, .agg #[.string ByteArray.empty, .string ByteArray.empty, .string ByteArray.empty, .string ByteArray.empty, .int .i64 0, .int .i64 0]] (World.laidAll_os _ _ _) (w_hv os _) (w_hr os _) (args_ok _)
      (OpenSpec.preRow_of_cond 8 hx (by kernel_rfl) (fun k hk => by cases hk) (by kernel_rfl) (w_laid os _))) ?_
  intro W base args ds gs before hval hW _ _ hwt hL _ _
  exact contract H enc W base args ds gs before hval hwt hW hL

theorem said : Rows.TokenAcceptedSaid :=
  OpenClaim.holds_of_cond 6 Tryz.f6 rfl rfl rfl rfl rfl rfl rfl ⟨rfl, rfl, rfl, rfl, rfl⟩ rfl rfl rfl rfl rfl (by kernel_rfl) Tryz.func6 (by kernel_rfl)
    (of_decide_eq_true (by kernel_rfl)) (by unfold Func.isWrapper; first | (rw [if_pos (by decide +kernel)]; kernel_rfl) | (rw [if_neg (by decide +kernel)]; exact ⟨rfl, rfl⟩))
    (fun os started H enc _ F => by rw [OpenClaim.pre_eq_preRow]; exact lifted os started H enc F)

theorem plain (f : FuncId) (fn : Func) (hf : Tryz.pinned.checked.prog.funcNamed Rows.tokenAcceptedRow.func = some f) (hfn : Tryz.pinned.checked.prog.funcs[f]? = some fn) :
    true = Tryz.pinned.checked.prog.looks [] ∧ ∀ (j : Nat) t, fn.params[j]? = some t → Tryz.pinned.checked.prog.wantsStandIn t = false := by
  obtain rfl : f = 6 := Option.some.inj ((show Tryz.prog.funcNamed Rows.tokenAcceptedRow.func = some 6 by kernel_rfl).symm.trans hf) |>.symm
  obtain rfl : fn = Tryz.f6 := (Option.some.inj (Tryz.func6.symm.trans hfn)).symm
  refine ⟨by kernel_rfl, fun j t ht => ?_⟩
  rw [Tryz.params6] at ht
  have hm : t ∈ [22, 9, 34] := by simpa using Array.mem_of_getElem? ht
  have hall : ([22, 9, 34].all fun u => !Tryz.prog.wantsStandIn u) = true := by kernel_rfl
  exact (show Tryz.prog.wantsStandIn t = false by simpa using List.all_eq_true.1 hall t hm)

theorem card : Rows.TokenAcceptedCardSaid :=
  Claim7.holds_tied_plain_at .later [] _ _ _ _ said (fun _ h => by cases h) (by kernel_rfl) (fun _ h => by cases h) tokenAccepted_row_tie rfl ⟨rfl, rfl⟩ (by kernel_rfl) rfl plain (by kernel_rfl)
end Go.Proofs.YtiiioefjdebggaaGreatDoor.tokenAccepted
