/- Joined: ClmRDecode. -/
import Derived.Test.YtpmikpijonccjaaGreatDoorSeg12
import Derived.Test.YtpmikpijonccjaaGreatDoorSeg9
import Derived.Test.YtpmikpijonccjaaGreatDoorSeg6
import Derived.Test.YtpmikpijonccjaaGreatDoorSeg3
import Derived.StillTailTactics
/- The reference's Decode. -/
namespace Go.Proofs.YtpmikpijonccjaaGreatDoor
open Go.RowKit

def tS (f : Nat → ByteArray) (k : Nat) : List Value := strVs ((List.range k).map fun i => unescS (f i))
def nS (f : Nat → ByteArray) (k : Nat) : List Value := (List.range k).map fun i => Value.int .i64 (readIntP (f (11 + i))).1
theorem tS_next (f : Nat → ByteArray) (k : Nat) : tS f (k + 1) = tS f k ++ [strV (unescS (f k))] := by
  rw [tS, List.range_succ, List.map_append, tS, List.map_singleton, strVs_snoc]
theorem nS_next (f : Nat → ByteArray) (k : Nat) : nS f (k + 1) = nS f k ++ [Value.int .i64 (readIntP (f (11 + k))).1] := by
  rw [nS, List.range_succ, List.map_append, nS]; rfl
theorem vals_at {w : World} {A : Option Addr} {vs : List ByteArray} (h : Strs w A vs) (hl : vs.length = 16) (i : Nat) (hi : i < 16) : ∃ b o, A = some ⟨b, o, none⟩ ∧ w.cell? ⟨b, o + i, none⟩ = some (.string (valsR vs i)) := by
  obtain ⟨b, o, e, hc⟩ := h i (by omega)
  refine ⟨b, o, e, ?_⟩
  rw [hc, valsR, List.getD_eq_getElem?_getD, List.getElem?_eq_getElem (by omega), Option.getD_some]
theorem info_i : (Tryz.prog.info? 3).map (fun i => (i.zero, i.size, i.bytes)) = some (some (.int .i64 0), 1, 8) := by kernel_rfl
set_option maxHeartbeats 16000000 in
set_option maxRecDepth 100000 in
theorem rdecode25_any (s : ByteArray) (w : World) (hs : s.size ≤ 1000000000) :
    Calls Tryz.prog 19 #[.string s] w fun e w' => RetDec25 s e w' ∧ Below w.heap.size w w' := by
  obtain ⟨i0, hi, hz0, hz1, hz2⟩ := info_parts Tryz.info_s
  obtain ⟨i1, hj, hy0, hy1, hy2⟩ := info_parts info_i
  have B1 : Hid (Below w.heap.size w (w.alloc (clO cl0 p30))) := Lib.hid ((Below.refl _ _).alloc (Nat.le_refl _) _)
  have X1 : Hid (ClBox (w.alloc (clO cl0 p30)) w.heap.size cl0 p30) := Lib.hid (ClBox.new w cl0 p30)
  by_cases h1 : 4096 < s.size
  · have HN : Hid (decE s = 3 ∧ ∀ c, ¬ IsDec s c) := Lib.hid ⟨by rw [decE, if_pos h1], fun c hc => by have := hc.2.2; omega⟩
    go_enter Tryz.func19, Tryz.ntmps19
    go_wp2_with (first | (refine alloc_cl rfl _ rfl rfl ?_) | (refine build_cl rfl _ rfl rfl ?_) | (refine store_cl rfl _ rfl _ _ rfl w.heap.size rfl cl0 p30 rfl cl0 p30 X1 ?_) | fail)
    refine bodyPost_ret (v := .tuple #[clV cl0 p30, .int .i64 3]) (res_cl Tryz.results19 _ _ w.heap.size cl0 p30 _ rfl (X1.out.set) rfl) rfl ⟨.inr ⟨by rw [HN.out.1], HN.out.2⟩, ?_⟩
    exact below_setRow B1.out (Nat.le_refl _) _
  · have HS4 : Hid (s.size ≤ 4096) := Lib.hid (by omega)
    have HD4 : Hid (decE s = 4) := Lib.hid (by rw [decE, if_neg h1])
    have HIR := Lib.hid (fun c (h : IsDec s c) => isDec_r h)
    go_enter Tryz.func19, Tryz.ntmps19
    go_wp2_with (first | (refine alloc_cl rfl _ rfl rfl ?_) | fail)
    refine (rsplit25_any s _ (by omega)).mono ?_
    rintro e w1 ⟨⟨vs, A, cap, rfl, hs1, hsp⟩ | ⟨v, rfl, hsp⟩, hb1⟩
    · have B2 := Lib.hid (bthen B1.out hb1)
      have X2 := Lib.hid (X1.out.below hb1)
      have hz : w.heap.size < w1.heap.size := by have := hb1.size; simp at this; omega
      have HLEN := Lib.hid (spl_len keysS _ vs hsp)
      have HSP := Lib.hid hsp
      have hvl : vs.length = 16 := HLEN.out.1
      have HVZ : Hid (∀ i, (valsR vs i).size ≤ 5000) := Lib.hid (fun i => by
        rw [valsR, List.getD_eq_getElem?_getD]
        cases h : vs[i]? with
        | none => show (0 : Nat) ≤ _; omega
        | some t =>
          have h2 := HLEN.out.2 t (List.mem_of_getElem? h)
          have h3 : s.data.toList.length = s.size := by simp
          have := HS4.out
          show t.size ≤ _
          omega)
      have VA : Hid (∀ W, Below w1.heap.size w1 W → ∀ i, i < 16 → ∃ b o, A = some ⟨b, o, none⟩ ∧ W.cell? ⟨b, o + i, none⟩ = some (.string (valsR vs i))) := Lib.hid (fun W hb i hi => vals_at (hs1.below hb) hvl i hi)
      clear hs1 hsp hb1 B1 X1
      obtain ⟨b, o, rfl, _⟩ := VA.out w1 (Below.refl _ _) 0 (by omega)
      have VC : Hid (∀ W, Below w1.heap.size w1 W → ∀ i, i < 16 → W.cell? ⟨b, o + i, none⟩ = some (.string (valsR vs i))) := Lib.hid (fun W hb i hi => by
        obtain ⟨b', o', e, hc⟩ := VA.out W hb i hi
        injection e with e
        injection e with e1 e2
        subst e1; subst e2
        exact hc)
      have HVL := Lib.hid hvl
      rw [hvl]
      clear VA hvl
      obtain ⟨f, HF⟩ : ∃ f, Hid (valsR vs = f) := ⟨_, Lib.hid rfl⟩
      rw [HF.out] at HVZ VC
      go_wp2_with fail
      go_loopw [6, 7] (fun v i wr => ∃ k : Nat, k ≤ 8 ∧ i = .int .i64 k ∧ Hid (wr.ownsRow w1.heap.size 9 1 v k (tS f k)) ∧ Hid (Below w1.heap.size w1 wr)) (fun _ i _ => 8 - (intOf i).toNat)
      case atStart => exact ⟨0, Nat.zero_le _, rfl, Lib.hid (World.ownsRow_nil _ _ _ _), Lib.hid (Below.refl _ _)⟩
      case round =>
        obtain ⟨k, hk, rfl, OR, BR⟩ := hrel
        by_cases hlt : k < 8
        · have hc := VC.out wr BR.out k (by omega)
          have hxz := HVZ.out k
          have HTN := Lib.hid (tS_next f k)
          obtain ⟨x, HX⟩ : ∃ x, Hid (f k = x) := ⟨_, Lib.hid rfl⟩
          rw [HX.out] at hc hxz HTN
          obtain ⟨y, HY⟩ : ∃ y, Hid (unescS x = y) := ⟨_, Lib.hid rfl⟩
          obtain ⟨ye, HYE⟩ : ∃ y, Hid (unescE x = y) := ⟨_, Lib.hid rfl⟩
          rw [HY.out] at HTN
          have f1 : (0 : Int) ≤ (k : Int) := by omega
          have f2 : (k : Int) < 16 := by omega
          go_wp2_with fail
          refine (runesc_any x _ (by omega)).mono ?_
          rintro e w3 ⟨rfl, hb3⟩
          rw [HY.out, HYE.out]
          have B3 := Lib.hid (bthen BR.out hb3)
          have O3 := Lib.hid (own_below OR.out hb3)
          clear hb3 hc
          go_wp2_with (first
            | (at_builtin; refine wpList_append_own _ rfl _ _ 22 rfl w1.heap.size 9 i0 (.string ByteArray.empty) 1 16 Tryz.underlying22 hi hz0 hz1 hz2 rfl (by decide) _ _ _ rfl (O3.out.alloc _) ⟨w3.heap.size, 0, none⟩ 1 1 [strV y] rfl rfl (cell_one_new _ _ _) (by intro u hu; simp at hu; subst hu; rfl) (by unfold maxLen; omega) (by omega) (by have := B3.out.size; simp; omega) ?_; intro v' w4 hown4 hg4 _)
            | fail)
          have B4 : Hid (Below w1.heap.size w1 w4) := Lib.hid ((B3.out.alloc B3.out.size _).grown hg4 (by have := B3.out.size; simp; omega) (fun q hq => (O3.out.lt q hq).1))
          have O4 : Hid (w4.ownsRow w1.heap.size 9 1 v' (k + 1) (tS f (k + 1))) := Lib.hid (by show World.ownsRow _ _ _ _ _ _ _; rw [HTN.out]; exact hown4)
          clear hown4 hg4
          go_wp2_with fail
          go_roundw
          case rel => exact ⟨k + 1, hlt, by go_num, O4, B4⟩
          case measure => simp [intOf]; omega
        · obtain rfl : k = 8 := by omega
          clear hlt
          have hc8 := VC.out wr BR.out 8 (by omega)
          have hxz8 := HVZ.out 8
          go_wp2_with fail
          refine (rsplit_any (f 8) _ (by omega)).mono ?_
          rintro e w5 ⟨⟨A5, c5, rfl, hs5, hf5, hl5⟩, hb5⟩
          have F5 : Hid (∀ q, A5 = some q → q.block ≠ w.heap.size) := Lib.hid (fun q hq => by have := hf5 q hq; have := BR.out.size; omega)
          clear hf5
          have B5 := Lib.hid (bthen BR.out hb5)
          have O5 := Lib.hid (own_below OR.out hb5)
          have S5 := Lib.hid hs5
          have L5 := Lib.hid hl5
          clear hb5 hs5 hl5 hc8 hxz8
          have hc9 := VC.out w5 B5.out 9 (by omega)
          have hxz9 := HVZ.out 9
          go_wp2_with fail
          refine (rsplit_any (f 9) _ (by omega)).mono ?_
          rintro e w6 ⟨⟨A6, c6, rfl, hs6, hf6, hl6⟩, hb6⟩
          have F6 : Hid (∀ q, A6 = some q → q.block ≠ w.heap.size) := Lib.hid (fun q hq => by have := hf6 q hq; have := B5.out.size; omega)
          clear hf6
          have B6 := Lib.hid (bthen B5.out hb6)
          have O6 := Lib.hid (own_below O5.out hb6)
          have S6 := Lib.hid (And.intro (S5.out.below hb6) hs6)
          have L6 := Lib.hid hl6
          clear hb6 hs6 hl6 hc9 hxz9 S5 O5 B5 OR BR
          have hc10 := VC.out w6 B6.out 10 (by omega)
          have hxz10 := HVZ.out 10
          go_wp2_with fail
          refine (rsplit_any (f 10) _ (by omega)).mono ?_
          rintro e w8 ⟨⟨A7, c7, rfl, hs7, hf7, hl7⟩, hb7⟩
          have F7 : Hid (∀ q, A7 = some q → q.block ≠ w.heap.size) := Lib.hid (fun q hq => by have := hf7 q hq; have := B6.out.size; omega)
          clear hf7
          have B7 := Lib.hid (bthen B6.out hb7)
          have O7 := Lib.hid (own_below O6.out hb7)
          have S7 : Hid (Strs w8 A5 (splitS (f 8)) ∧ Strs w8 A6 (splitS (f 9)) ∧ Strs w8 A7 (splitS (f 10))) := Lib.hid ⟨S6.out.1.below hb7, S6.out.2.below hb7, hs7⟩
          have L7 := Lib.hid hl7
          clear hb7 hs7 hl7 hc10 hxz10 S6 O6 B6
          obtain ⟨l5, HL5⟩ : ∃ l, Hid ((splitS (f 8)).length = l) := ⟨_, Lib.hid rfl⟩
          obtain ⟨l6, HL6⟩ : ∃ l, Hid ((splitS (f 9)).length = l) := ⟨_, Lib.hid rfl⟩
          obtain ⟨l7, HL7⟩ : ∃ l, Hid ((splitS (f 10)).length = l) := ⟨_, Lib.hid rfl⟩
          obtain ⟨e5, HE5⟩ : ∃ l, Hid (splitErr (f 8) = l) := ⟨_, Lib.hid rfl⟩
          obtain ⟨e6, HE6⟩ : ∃ l, Hid (splitErr (f 9) = l) := ⟨_, Lib.hid rfl⟩
          obtain ⟨e7, HE7⟩ : ∃ l, Hid (splitErr (f 10) = l) := ⟨_, Lib.hid rfl⟩
          rw [HL5.out, HL6.out, HL7.out, HE5.out, HE6.out, HE7.out]
          go_wp2_with fail
          go_loopw [16, 17] (fun v i wr => ∃ k : Nat, k ≤ 5 ∧ i = .int .i64 (11 + (k : Int)) ∧ Hid (wr.ownsRow w8.heap.size 3 1 v k (nS f k)) ∧ Hid (Below w8.heap.size w8 wr)) (fun _ i _ => 16 - (intOf i).toNat)
          case atStart => exact ⟨0, Nat.zero_le _, rfl, Lib.hid (World.ownsRow_nil _ _ _ _), Lib.hid (Below.refl _ _)⟩
          case round =>
            obtain ⟨k, hk, rfl, OR, BR⟩ := hrel
            by_cases hlt : k < 5
            · have hc := VC.out wr (bthen B7.out BR.out) (11 + k) (by omega)
              have hxz := HVZ.out (11 + k)
              have HTN := Lib.hid (nS_next f k)
              obtain ⟨x, HX⟩ : ∃ x, Hid (f (11 + k) = x) := ⟨_, Lib.hid rfl⟩
              rw [HX.out] at hc hxz HTN
              obtain ⟨y, HY⟩ : ∃ y, Hid ((readIntP x).1 = y) := ⟨_, Lib.hid rfl⟩
              obtain ⟨ye, HYE⟩ : ∃ y, Hid ((readIntP x).2 = y) := ⟨_, Lib.hid rfl⟩
              rw [HY.out] at HTN
              have f0 : (0 : Int) ≤ (k : Int) := by omega
              have f1 : (0 : Int) ≤ 11 + (k : Int) := by omega
              have f2 : 11 + (k : Int) < 16 := by omega
              have f3 : (11 + (k : Int)).toNat = 11 + k := by omega
              go_wp2_with fail
              refine (rreadint_any x _ (by omega)).mono ?_
              rintro e w3 ⟨rfl, hb3⟩
              rw [HY.out, HYE.out]
              have B3 := Lib.hid (bthen BR.out hb3)
              have O3 := Lib.hid (own_below OR.out hb3)
              clear hb3 hc
              go_wp2_with (first
                | (at_builtin; refine wpList_append_own _ rfl _ _ 73 rfl w8.heap.size 3 i1 (.int .i64 0) 1 8 Tryz.underlying73 hj hy0 hy1 hy2 rfl (by decide) _ _ _ rfl (O3.out.alloc _) ⟨w3.heap.size, 0, none⟩ 1 1 [Value.int .i64 y] rfl rfl (cell_one_new _ _ _) (by intro u hu; simp at hu; subst hu; rfl) (by unfold maxLen; omega) (by omega) (by have := B3.out.size; simp; omega) ?_; intro v' w4 hown4 hg4 _)
                | fail)
              have B4 : Hid (Below w8.heap.size w8 w4) := Lib.hid ((B3.out.alloc B3.out.size _).grown hg4 (by have := B3.out.size; simp; omega) (fun q hq => (O3.out.lt q hq).1))
              have O4 : Hid (w4.ownsRow w8.heap.size 3 1 v' (k + 1) (nS f (k + 1))) := Lib.hid (by show World.ownsRow _ _ _ _ _ _ _; rw [HTN.out]; exact hown4)
              clear hown4 hg4
              go_wp2_with fail
              go_roundw
              case rel => exact ⟨k + 1, hlt, by (first | go_num | (congr 1; omega)), O4, B4⟩
              case measure => simp [intOf]; omega
            · obtain rfl : k = 5 := by omega
              clear hlt
              have O8 := Lib.hid (own_below O7.out BR.out)
              obtain ⟨tb, tc, rfl, htc⟩ : ∃ g c, u6 = .slice (some ⟨g, 0, none⟩) 8 c ∧ 8 ≤ c := by
                rcases O8.out.2 with ⟨_, h0⟩ | ⟨g, cap, cur, e, _, _, hnc, _⟩
                · omega
                · exact ⟨g, cap, e, hnc⟩
              obtain ⟨nb, nc, rfl, hnc⟩ : ∃ g c, u16 = .slice (some ⟨g, 0, none⟩) 5 c ∧ 5 ≤ c := by
                rcases OR.out.2 with ⟨_, h0⟩ | ⟨g, cap, cur, e, _, _, hnc, _⟩
                · omega
                · exact ⟨g, cap, e, hnc⟩
              have t0 : wr.cell? ⟨tb, 0, none⟩ = some (.string (unescS (f 0))) := (O8.out.cellAt 0 (by omega)).trans rfl
              have t1 : wr.cell? ⟨tb, 1, none⟩ = some (.string (unescS (f 1))) := (O8.out.cellAt 1 (by omega)).trans rfl
              have t2 : wr.cell? ⟨tb, 2, none⟩ = some (.string (unescS (f 2))) := (O8.out.cellAt 2 (by omega)).trans rfl
              have t3 : wr.cell? ⟨tb, 3, none⟩ = some (.string (unescS (f 3))) := (O8.out.cellAt 3 (by omega)).trans rfl
              have t4 : wr.cell? ⟨tb, 4, none⟩ = some (.string (unescS (f 4))) := (O8.out.cellAt 4 (by omega)).trans rfl
              have t5 : wr.cell? ⟨tb, 5, none⟩ = some (.string (unescS (f 5))) := (O8.out.cellAt 5 (by omega)).trans rfl
              have t6 : wr.cell? ⟨tb, 6, none⟩ = some (.string (unescS (f 6))) := (O8.out.cellAt 6 (by omega)).trans rfl
              have t7 : wr.cell? ⟨tb, 7, none⟩ = some (.string (unescS (f 7))) := (O8.out.cellAt 7 (by omega)).trans rfl
              have n0 : wr.cell? ⟨nb, 0, none⟩ = some (.int .i64 (readIntP (f 11)).1) := (OR.out.cellAt 0 (by omega)).trans rfl
              have n1 : wr.cell? ⟨nb, 1, none⟩ = some (.int .i64 (readIntP (f 12)).1) := (OR.out.cellAt 1 (by omega)).trans rfl
              have n2 : wr.cell? ⟨nb, 2, none⟩ = some (.int .i64 (readIntP (f 13)).1) := (OR.out.cellAt 2 (by omega)).trans rfl
              have n3 : wr.cell? ⟨nb, 3, none⟩ = some (.int .i64 (readIntP (f 14)).1) := (OR.out.cellAt 3 (by omega)).trans rfl
              have n4 : wr.cell? ⟨nb, 4, none⟩ = some (.int .i64 (readIntP (f 15)).1) := (OR.out.cellAt 4 (by omega)).trans rfl
              go_wp2_with fail
              go_region_held3 (fun w' => w'.cell? ⟨tb, 0, none⟩ = some (.string (unescS (f 0))) ∧ w'.cell? ⟨tb, 1, none⟩ = some (.string (unescS (f 1))) ∧ w'.cell? ⟨tb, 2, none⟩ = some (.string (unescS (f 2))) ∧ w'.cell? ⟨tb, 3, none⟩ = some (.string (unescS (f 3))) ∧ w'.cell? ⟨tb, 4, none⟩ = some (.string (unescS (f 4))) ∧ w'.cell? ⟨tb, 5, none⟩ = some (.string (unescS (f 5))) ∧ w'.cell? ⟨tb, 6, none⟩ = some (.string (unescS (f 6))) ∧ w'.cell? ⟨tb, 7, none⟩ = some (.string (unescS (f 7))) ∧ w'.cell? ⟨nb, 0, none⟩ = some (.int .i64 (readIntP (f 11)).1) ∧ w'.cell? ⟨nb, 1, none⟩ = some (.int .i64 (readIntP (f 12)).1) ∧ w'.cell? ⟨nb, 2, none⟩ = some (.int .i64 (readIntP (f 13)).1) ∧ w'.cell? ⟨nb, 3, none⟩ = some (.int .i64 (readIntP (f 14)).1) ∧ w'.cell? ⟨nb, 4, none⟩ = some (.int .i64 (readIntP (f 15)).1))
                (first | go_keep)
                (first | fail)
              clear t0 t1 t2 t3 t4 t5 t6 t7 n0 n1 n2 n3 n4
              have HOB : Hid (clO (decC f) ⟨A5, c5, A6, c6, A7, c7⟩ = Obj.cells #[.string (unescS (f 0)), .string (unescS (f 1)), .string (unescS (f 2)), .string (unescS (f 3)), .string (unescS (f 4)), .string (unescS (f 5)), .string (unescS (f 6)), .string (unescS (f 7)), .slice A5 l5 c5, .slice A6 l6 c6, .slice A7 l7 c7, .int .i64 (readIntP (f 11)).1, .int .i64 (readIntP (f 12)).1, .int .i64 (readIntP (f 13)).1, .int .i64 (readIntP (f 14)).1, .int .i64 (readIntP (f 15)).1] 24 (0, 0)) := Lib.hid (by rw [← HL5.out, ← HL6.out, ← HL7.out]; rfl)
              rw [← HOB.out]
              have HIN : Hid (ClIn (decC f) ⟨A5, c5, A6, c6, A7, c7⟩) := Lib.hid (decC_in HVZ.out L5.out L6.out L7.out)
              have HAT : Hid (ClAt ((wr.alloc (clO (decC f) ⟨A5, c5, A6, c6, A7, c7⟩)).drew) (decC f) ⟨A5, c5, A6, c6, A7, c7⟩) := Lib.hid (by
                have hb := (BR.out.alloc BR.out.size (clO (decC f) ⟨A5, c5, A6, c6, A7, c7⟩)).drew
                exact ⟨S7.out.1.below hb, S7.out.2.1.below hb, S7.out.2.2.below hb⟩)
              have HUN : Hid (∀ d, IsDec s d → d = decC f) := Lib.hid (fun d hd => by
                obtain ⟨g1, g2⟩ := HIR.out d hd
                have g3 := Option.some.inj (HSP.out.symm.trans g1)
                rw [← HF.out, g3]; exact g2.symm)
              clear HOB S7 L5 L6 L7 HIR OR O8 O7 VC HVZ
              have HFA : Hid ((∀ q, (⟨A5, c5, A6, c6, A7, c7⟩ : P3).a1 = some q → q.block ≠ w.heap.size) ∧ (∀ q, (⟨A5, c5, A6, c6, A7, c7⟩ : P3).a2 = some q → q.block ≠ w.heap.size) ∧ (∀ q, (⟨A5, c5, A6, c6, A7, c7⟩ : P3).a3 = some q → q.block ≠ w.heap.size)) := Lib.hid ⟨F5.out, F6.out, F7.out⟩
              obtain ⟨p, HP⟩ : ∃ p : P3, Hid ((⟨A5, c5, A6, c6, A7, c7⟩ : P3) = p) := ⟨_, Lib.hid rfl⟩
              obtain ⟨c, HC⟩ : ∃ c, Hid (decC f = c) := ⟨_, Lib.hid rfl⟩
              rw [HP.out, HC.out] at HIN HAT
              rw [HP.out] at HFA
              rw [HC.out] at HUN
              rw [HP.out, HC.out]
              have X9 : Hid (ClBox ((wr.alloc (clO c p)).drew) wr.heap.size c p) := Lib.hid (ClBox.new wr c p)
              have B8 : Hid (Below w.heap.size w ((wr.alloc (clO c p)).drew)) := Lib.hid ((((bthen B2.out B7.out).trans (BR.out.mono (Nat.le_trans B2.out.size B7.out.size))).alloc (Nat.le_trans B2.out.size (Nat.le_trans B7.out.size BR.out.size)) _).drew)
              have R8 : Hid (ClBox ((wr.alloc (clO c p)).drew) w.heap.size cl0 p30) := Lib.hid (X2.out.below (((B7.out.trans (BR.out.mono B7.out.size)).alloc (Nat.le_trans B7.out.size BR.out.size) (clO c p)).drew))
              clear HP HC BR B7 B2 X2
              go_wp2_with (first | (refine load_cl rfl _ rfl _ rfl wr.heap.size rfl c p X9 ?_) | fail)
              refine (rencode_any c p _ HIN.out HAT.out).mono ?_
              rintro e w9 ⟨rfl, hb9⟩
              have B9 := Lib.hid (bthen B8.out hb9)
              have A9 := Lib.hid (HAT.out.below hb9)
              have R7 := Lib.hid (R8.out.below hb9)
              have X7 := Lib.hid (X9.out.below hb9)
              clear hb9 X9 R8 B8 HAT
              have HIS : Hid (encE c = 0 → encV c = s → IsDec s c) := Lib.hid isDec_of
              have HIE : Hid (IsDec s c → encE c = 0 ∧ encV c = s) := Lib.hid isDec_enc
              obtain ⟨E, HEE⟩ : ∃ E, Hid (encE c = E) := ⟨_, Lib.hid rfl⟩
              obtain ⟨V, HVV⟩ : ∃ V, Hid (encV c = V) := ⟨_, Lib.hid rfl⟩
              rw [HEE.out, HVV.out] at HIS HIE
              rw [HEE.out, HVV.out]
              by_cases h0 : E = 0
              · by_cases hv : V = s
                · have HI := Lib.hid (HIS.out h0 hv)
                  have q1 : (E != 0) = false := by rw [h0]; rfl
                  have q2 : (V.toList != s.toList) = false := by rw [hv]; simp
                  have q3 : (V.toList == s.toList) = true := by rw [hv]; simp
                  clear h0 hv
                  go_wp2_with (first | (refine load_cl rfl _ rfl _ rfl wr.heap.size rfl c p X7 ?_) | (refine store_cl rfl _ rfl _ _ rfl w.heap.size rfl c p rfl cl0 p30 R7 ?_) | fail)
                  refine bodyPost_ret (v := .tuple #[clV c p, .int .i64 0]) (res_cl Tryz.results19 _ _ w.heap.size c p _ rfl (R7.out.set) rfl) rfl ⟨.inl ⟨c, p, rfl, HI.out, ?_, HIN.out⟩, ?_⟩
                  · exact A9.out.setRow HFA.out.1 HFA.out.2.1 HFA.out.2.2
                  · exact below_setRow B9.out (Nat.le_refl _) _
                · have HN : Hid (∀ d, ¬ IsDec s d) := Lib.hid (fun d hd => by have e := HUN.out d hd; subst e; exact hv (HIE.out hd).2)
                  have q1 : (E != 0) = false := by rw [h0]; rfl
                  have q3 := str_ne hv
                  have q2 : (V.toList != s.toList) = true := by rw [bne, q3]; rfl
                  clear h0 hv
                  go_wp2_with (first | (refine build_cl rfl _ rfl rfl ?_) | (refine store_cl rfl _ rfl _ _ rfl w.heap.size rfl cl0 p30 rfl cl0 p30 R7 ?_) | fail)
                  refine bodyPost_ret (v := .tuple #[clV cl0 p30, .int .i64 4]) (res_cl Tryz.results19 _ _ w.heap.size cl0 p30 _ rfl (R7.out.set) rfl) rfl ⟨.inr ⟨by rw [HD4.out], HN.out⟩, ?_⟩
                  exact below_setRow B9.out (Nat.le_refl _) _
              · have HN : Hid (∀ d, ¬ IsDec s d) := Lib.hid (fun d hd => by have e := HUN.out d hd; subst e; exact h0 (HIE.out hd).1)
                have q1 : (E != 0) = true := by rw [bne_iff_ne]; exact h0
                clear h0
                go_wp2_with (first | (refine build_cl rfl _ rfl rfl ?_) | (refine store_cl rfl _ rfl _ _ rfl w.heap.size rfl cl0 p30 rfl cl0 p30 R7 ?_) | fail)
                refine bodyPost_ret (v := .tuple #[clV cl0 p30, .int .i64 4]) (res_cl Tryz.results19 _ _ w.heap.size cl0 p30 _ rfl (R7.out.set) rfl) rfl ⟨.inr ⟨by rw [HD4.out], HN.out⟩, ?_⟩
                exact below_setRow B9.out (Nat.le_refl _) _
    · have B2 := Lib.hid (bthen B1.out hb1)
      have X2 := Lib.hid (X1.out.below hb1)
      have HN : Hid (∀ d, ¬ IsDec s d) := Lib.hid (fun d hd => by have h := (HIR.out d hd).1; rw [hsp] at h; cases h)
      clear hsp hb1 B1 X1 HIR
      go_wp2_with (first | (refine build_cl rfl _ rfl rfl ?_) | (refine store_cl rfl _ rfl _ _ rfl w.heap.size rfl cl0 p30 rfl cl0 p30 X2 ?_) | fail)
      refine bodyPost_ret (v := .tuple #[clV cl0 p30, .int .i64 4]) (res_cl Tryz.results19 _ _ w.heap.size cl0 p30 _ rfl (X2.out.set) rfl) rfl ⟨.inr ⟨by rw [HD4.out], HN.out⟩, ?_⟩
      exact below_setRow B2.out (Nat.le_refl _) _
end Go.Proofs.YtpmikpijonccjaaGreatDoor

